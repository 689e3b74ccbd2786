/- One operation of the evaluator is an operation of the model: values, addresses, loads, stores, boxes. -/
import Derived.Test.YtldmgdphelgffaaDoorPS3
import Derived.Test.YtldmgdphelgffaaDoorPS0
import Derived.Orders
namespace Go.PS
open Go.RowKit

/-- THE CONTRACT of a function: arguments that read as 'args' give a result that reads as 'r'; nothing that was there has turned; the result reaches nothing but what the arguments reach and what is new. -/
def Ok (P : Program) (f : FuncId) (args : List PV) (r : PV) : Prop :=
  ∀ (w : World) (Sa : Nat → Prop) (vs : List Value), GI P w → (∀ b, Sa b → b < w.heap.size) → vs.length = args.length → (∀ (i : Nat) p v, args[i]? = some p → vs[i]? = some v → RepS w Sa p v) →
    Calls P f vs.toArray w fun e w' => ∃ v, e = .returned v ∧ Below w.heap.size w w' ∧ RepS w' (fun b => Sa b ∨ (w.heap.size ≤ b ∧ b < w'.heap.size)) r v

/-- The environment's word holds. -/
def EnvOk (P : Program) (E : Env) : Prop := ∀ g as r ob, E g as = some (r, ob) → (∀ X ∈ ob, X) → Ok P g as r

def Post (w0 : World) (Sa : Nat → Prop) (h' : Hp) (S : Nat → Prop) (m : Mp) (w : World) (v : PV) (v' : Value) (w' : World) : Prop :=
  ∃ S' m', Inv w0 Sa h' S' m' w' ∧ Go1 w S m w' S' m' ∧ Rep w' S' m' v v'

theorem Go1.refl (w : World) (S : Nat → Prop) (m : Mp) : Go1 w S m w S m := fun _ _ h => h

/-! Plain values. -/
theorem rep_cellV {w : World} {S : Nat → Prop} {m : Mp} {p : PV} {v u : Value} (h : Rep w S m p v) (hc : cellV p = some u) : v = u := by
  cases p <;> simp [cellV] at hc
  · subst hc
    cases h with
    | st _ _ h => cases h; rfl
  · subst hc
    cases h with
    | st _ _ h => cases h; rfl

theorem cellVs_get : ∀ {cs : List PV} {us : List Value}, cellVs cs = some us → cs.length = us.length ∧ ∀ (i : Nat) c u, cs[i]? = some c → us[i]? = some u → cellV c = some u
  | [], us, h => by simp [cellVs] at h; subst h; simp
  | c :: cs, us, h => by
    simp only [cellVs] at h
    cases hc : cellV c with
    | none => rw [hc] at h; cases h
    | some v =>
      rw [hc] at h
      cases hcs : cellVs cs with
      | none => rw [hcs] at h; cases h
      | some vs =>
        rw [hcs] at h
        cases h
        obtain ⟨h1, h2⟩ := cellVs_get hcs
        refine ⟨by simp [h1], fun i d u hd hu => ?_⟩
        cases i with
        | zero => simp at hd hu; subst hd; subst hu; exact hc
        | succ i => simp at hd hu; exact h2 i d u hd hu

theorem rep_toV {w : World} {S : Nat → Prop} {m : Mp} {p : PV} {v u : Value} (h : Rep w S m p v) (hc : toV p = some u) : v = u := by
  cases p with
  | agg cs =>
    simp only [toV] at hc
    cases hcs : cellVs cs with
    | none => rw [hcs] at hc; cases hc
    | some us =>
      rw [hcs] at hc
      cases hc
      obtain ⟨h1, h2⟩ := cellVs_get hcs
      have key : ∀ vs : Array Value, cs.length = vs.size → (∀ (i : Nat) c v, cs[i]? = some c → vs[i]? = some v → Rep w S m c v) → vs = ⟨us⟩ := by
        intro vs hl hcc
        apply Array.ext'
        apply List.ext_getElem?
        intro i
        by_cases hi : i < vs.size
        · have hi' : i < cs.length := by omega
          have hi2 : i < us.length := by omega
          have a1 : vs.toList[i]? = some vs[i] := by simp [hi]
          have a2 : us[i]? = some us[i] := by simp [hi2]
          rw [a1, a2]
          have := rep_cellV (hcc i cs[i] vs[i] (by simp [hi']) (by simp [hi])) (h2 i cs[i] us[i] (by simp [hi']) a2)
          rw [this]
        · rw [List.getElem?_eq_none (by simp; omega), List.getElem?_eq_none (by show us.length ≤ i; omega)]
      cases h with
      | st _ _ h => cases h with
        | agg _ vs hl hcc => rw [key vs hl fun i c v q1 q2 => .st _ _ (hcc i c v q1 q2)]
      | agg _ vs hl hcc => rw [key vs hl hcc]
  | sc _ => exact rep_cellV h hc
  | bit _ => exact rep_cellV h hc
  | _ => simp [toV, cellV] at hc

theorem repS_cellOf (w : World) (S : Nat → Prop) (v : Value) : RepS w S (cellOf v) v := by
  unfold cellOf
  split
  · exact .bit _
  · exact .nul _
  · exact .sc _

theorem repS_ofV (w : World) (S : Nat → Prop) (v : Value) : RepS w S (ofV v) v := by
  unfold ofV
  split
  · refine .agg _ _ (by simp) fun i c v h1 h2 => ?_
    rename_i cs
    simp only [List.getElem?_map] at h1
    have h3 : cs.toList[i]? = some v := by simpa using h2
    rw [h3] at h1
    simp at h1
    subst h1
    exact repS_cellOf w S v
  · exact repS_cellOf w S _

theorem repS_cellR (w : World) (S : Nat → Prop) (v : Value) : RepS w S (cellR v) v := by
  unfold cellR
  split
  · exact .nul _
  · exact .sc _

theorem repS_ofR (w : World) (S : Nat → Prop) (v : Value) : RepS w S (ofR v) v := by
  unfold ofR
  split
  · refine .agg _ _ (by simp) fun i c v h1 h2 => ?_
    rename_i cs
    simp only [List.getElem?_map] at h1
    have h3 : cs.toList[i]? = some v := by simpa using h2
    rw [h3] at h1
    simp at h1
    subst h1
    exact repS_cellR w S v
  · exact repS_cellR w S _

theorem pureRun_run {α : Type} {P : Program} : ∀ {s : Sem α} {x : α}, pureRun P s = some x → ∀ w, s.run P w = .ok x w
  | .pure a, x, h, w => by simp [pureRun] at h; subst h; rfl
  | .program k, x, h, w => by
    simp only [pureRun] at h
    show (k P).run P w = _
    exact pureRun_run h w
  | .mark _ k, x, h, w => by
    simp only [pureRun] at h
    show k.run P w = _
    exact pureRun_run h w
  | .load .., _, h, _ | .store .., _, h, _ | .new .., _, h, _ | .shape .., _, h, _ | .freeze .., _, h, _ | .frozen .., _, h, _ | .getObj .., _, h, _ | .setObj .., _, h, _
  | .choose .., _, h, _ | .sys .., _, h, _ | .halt .., _, h, _ => by simp [pureRun] at h

section
variable {P : Program} {w0 w : World} {Sa S : Nat → Prop} {h h' : Hp} {m : Mp} {a : Act} {o : Oper} {T : List PV} {s s' : Scr} {ob : List Prop} {v : PV} {next : Act → World → Prop} {Q : Exit → Act → World → Prop}

/-- An operation that gives a value and leaves the world alone. -/
theorem wp_value {v' : Value} (hrun : (execOp a.eval o).run P w = .ok (.value v') w) (hn : next (a.put o.dst v') w) : o.wp P a w next Q := by
  unfold Oper.wp
  rw [hrun]
  exact hn

theorem wp_value' {v' : Value} {w' : World} (hrun : (execOp a.eval o).run P w = .ok (.value v') w') (hn : next (a.put o.dst v') w') : o.wp P a w next Q := by
  unfold Oper.wp
  rw [hrun]
  exact hn

theorem post_same (hI : Inv w0 Sa h S m w) {v' : Value} (hr : Rep w S m v v') : Post w0 Sa h S m w v v' w := ⟨S, m, hI, Go1.refl _ _ _, hr⟩

theorem plain_sound (hI : Inv w0 Sa h S m w) (hT : ∀ x ∈ o.op.operands, ∀ p, opnd T x = some p → Rep w S m p (a.eval x)) (he : plainP P T h o s = some (v, h', ob, s'))
    (hn : ∀ v' w', Post w0 Sa h' S m w v v' w' → next (a.put o.dst v') w') : o.wp P a w next Q := by
  have hsel : ∀ cs b, o.op ≠ .select cs b := by
    intro cs b hop
    simp [plainP, hop] at he
  unfold plainP at he
  split at he
  · cases he
  · split at he
    · rename_i hall
      split at he
      · rename_i v1 hp
        cases he
        have hcongr : execOp a.eval o = execOp (fun x => ((opnd T x).bind toV).getD Go.undef) o := by
          refine execOp_congr o hsel fun x hx => ?_
          have hx1 := List.all_eq_true.1 hall x (by simpa using hx)
          cases hop : opnd T x with
          | none => rw [hop] at hx1; cases hx1
          | some p =>
            rw [hop] at hx1
            simp only [Option.bind_some] at hx1 ⊢
            cases ht : toV p with
            | none => rw [ht] at hx1; cases hx1
            | some u => simp only [Option.getD_some]; exact rep_toV (hT x hx p hop) ht
        have hrun := pureRun_run hp w
        rw [← hcongr] at hrun
        exact wp_value hrun (hn v1 w (post_same hI (.st _ _ (repS_ofR w S v1))))
      · cases he
    · cases he
end
end Go.PS
