/- The frame of a law over laid tables: the lift, the facts on the variables, a start that fits. -/
import Derived.Test.YtldmgdphelgffaaDoorS16
import Derived.Test.YtldmgdphelgffaaDoorRows
import Derived.Test.YtldmgdphelgffaaDoorU2
import Derived.HandedShaped
import Derived.LaidLaws
import Derived.Lib.LaidTab
import Derived.WalkKit
import Derived.ProofKit
namespace Go.Proofs.YtldmgdphelgffaaDoor
open Go.ChangeShapes Go.WideShapes Go.ChangeAt Go.RowKit Go.PS

theorem lift_laid {H : Type} {enc : TypeId × Value → H} {a : Assume} {C : Checked} {os : Os} {f : FuncId} {fn : Func} {s : ChangeSpec} {conds : List PathCond} {apart fresh handsOn again : Bool} {X : World → Array Value → Prop}
    (hX : ∀ (w w' : World) (args : Array Value), w.heap = w'.heap → X w args → X w' args)
    (own : ownKnob C.prog.godebug = none) (started : os.Started) (noInit : C.prog.inits.idxOf? f = none) (hfn : C.prog.funcs[f]? = some fn)
    (witness : ∃ (w : World) (tape : Tape) (i : Input), w.os = os ∧ (w.forCall tape i).Shaped C.prog ∧ i.vars = [] ∧ Input.okWide C.prog (w.forCall tape i) .any w.heap.size f i ∧
      ((s.pre enc C.prog fn conds apart (w.forCall tape i).memory i.args ∧ X (w.forCall tape i).memory i.args) ∧ sizedMet enc C.prog fn (OpenSpec.ofChange s) apart (w.forCall tape i).memory i.args) ∧ a.holds C.prog (lone (Frame.enter C.prog f i.args .normal) [] (w.forCall tape i)))
    (contract : ∀ (W : World) (base : Nat) (args : Array Value) (ds gs : List (DataW H)) (before : List MemPlace),
      (∀ (j : Nat) t v, fn.params[j]? = some t → args[j]? = some v → Value.okWide C.prog W .any base t v) →
      DataW.Whole enc C.prog fn.params.toList s.vars apart W args.toList ds gs before →
      W.ShapedOpen C.prog → X W args →
      Calls C.prog f args W fun e W' => ∃ v, e = .returned v ∧ s.post enc C.prog fn apart fresh handsOn again W args v W') :
    ReturnsInHanded a C os f .any (fun w args => (s.pre enc C.prog fn conds apart w args ∧ X w args) ∧ sizedMet enc C.prog fn (OpenSpec.ofChange s) apart w args) (s.post enc C.prog fn apart fresh handsOn again) := by
  refine returnsInHanded_of_calls own started noInit witness ?_
  intro w tape i _ hsh _ hok hpre _
  obtain ⟨_, _, _, fn', hfn', _, _, _, _, hval⟩ := hok
  have e : fn' = fn := Option.some.inj (hfn'.symm.trans hfn)
  subst e
  obtain ⟨⟨⟨ds, gs, before, hw, _⟩, hx⟩, _⟩ := hpre
  have hw' := DataW.Whole.of_heap (w' := w.forCall tape i) (by rfl) hw
  refine (contract (w.forCall tape i) w.heap.size i.args ds gs before hval hw' hsh (hX _ _ _ (by rfl) hx)).mono fun e W' ⟨v, he, hp⟩ => ?_
  subst he
  exact ChangeSpec.post_blind hp

/-- The cells that a table's datum tells. -/
def cellsD (d : DataW Unit) : List Value := match d with
  | .agg l => l.flatMap fun x => match x with
    | .lit (.int k z) => [.int k z]
    | .agg l2 => l2.map fun y => match y with
      | .lit (.int k z) => .int k z
      | _ => Go.undef
    | _ => []
  | _ => []
/-- The settled world with the tables of the list in their variables. -/
noncomputable def laidWorld (L : List (String × DataW Unit)) (os : Os) : World :=
  let w0 := World.holding Tryd.prog os ⟨#[], #[], []⟩
  { w0 with heap := L.foldl (fun h x => match Tryd.prog.globalNamed x.1 with
      | some g => h.modify g fun
        | .cells _ t frozen => .cells (cellsD x.2).toArray t frozen
        | o => o
      | none => h) w0.heap }

def laid3 : List (String × DataW Unit) := Rows.scriptLinesRow.laid
theorem laid3_met (os : Os) (args : Array Value) : laidMet Tryd.prog laid3 ((laidWorld laid3 os).forCall (fun _ _ => 0) ⟨#[], args, []⟩).memory :=
  laidMet_of_run' 8 (by kernel_rfl) (by kernel_rfl)

theorem gi_of {W : World} {a b : String × DataW Unit} {n : String} {r : List (String × DataW Unit)} (hn : Tryd.prog.globalNamed n = some 1) (hsh : W.ShapedOpen Tryd.prog)
    (hL : laidMet Tryd.prog (a :: b :: (n, Rows.laid_internal_strconv_uint64pow10) :: r) W) : GI P W := by
  refine ⟨Tryd.laysM219.s1_3 W hsh, ?_⟩
  obtain ⟨ps, h, _⟩ := hL
  obtain ⟨_, _, _, _, _, _, _, _, _, _, h, _⟩ := h
  obtain ⟨_, _, _, _, _, _, _, _, _, _, h, _⟩ := h
  obtain ⟨g, t, cs, fuel, p, q, hg, ht, hvar, hd, _, _⟩ := h
  obtain rfl := Option.some.inj (hn.symm.trans hg)
  obtain rfl := Option.some.inj ((show (Tryd.prog.globals[1]?).map (·.type) = some 81 by kernel_rfl).symm.trans ht)
  have hc : cs.toList = Lib.pow10Tab.map fun z => Value.int .u64 z := Lib.cells_of_tab (zs := Lib.pow10Tab) Tryd.underlying81 Tryd.underlying71 (by kernel_rfl) (by kernel_rfl) hd
  unfold World.var? at hvar
  rw [hn] at hvar
  simp only [Option.bind_some] at hvar
  split at hvar
  · rename_i c et fz hw
    obtain rfl := Option.some.inj hvar
    exact ⟨et, fz, by rw [hw, ← hc]⟩
  · cases hvar
end Go.Proofs.YtldmgdphelgffaaDoor
