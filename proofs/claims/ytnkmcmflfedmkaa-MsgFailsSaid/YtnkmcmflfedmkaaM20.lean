/- Contracts of chapter 8: the reference's Check. -/
import Derived.Test.YtnkmcmflfedmkaaM19
namespace Go.Proofs.Ytnkmcmflfedmkaa
open Go.PS

def d33 : List PV → Option (PV × List Prop)
  | [.agg a, .sc (.int .u8 c)] => match msgOf a with
    | some (m, ob) => some (Bo (zeroS m c), ob)
    | none => none
  | _ => none
def d35 : List PV → Option (PV × List Prop)
  | [.agg a, .sc (.int .u8 c)] => match msgOf a with
    | some (m, ob) => some (I (faultS m c), MsgW m :: ob)
    | none => none
  | _ => none
def Ep : Env := addE 33 d33 (addE 35 d35 Eo)
theorem Ep_ok : EnvOk P Ep :=
  addE_ok (addE_ok Eo_ok
    (fun l r ob h ho => by
      unfold d35 at h
      split at h
      · split at h
        · cases h
          exact (fault_ok _ _ (ho _ List.mem_cons_self)).conv2 (msgOf_rep (by assumption) fun X hX => ho X (List.mem_cons_of_mem _ hX)) (fun _ _ _ h => h)
        · cases h
      · cases h))
    (fun l r ob h ho => by
      unfold d33 at h
      split at h
      · split at h
        · cases h
          exact (zero_ok _ _).conv2 (msgOf_rep (by assumption) ho) (fun _ _ _ h => h)
        · cases h
      · cases h)

def letters : List UInt8 := [102, 110, 97, 111, 122, 118, 117, 116, 78, 81, 113, 105, 109, 112, 101, 79, 99, 100, 115, 69, 108, 84, 83]
def badL (m : Msg) (b : UInt8) : Bool := !usesS m.kind b.toNat && !zeroS m b.toNat
def h19 (m : Msg) : Hp := [⟨[m.cells], 0, [], 39⟩]

def st19 (i : Int) : List PV := ([Z, .ptr 0 0 0, Z, Z, I i] ++ List.replicate 46 Z)
def lt19 (m : Msg) (i : Int) : LT := .ite (anyFrom (badL m) letters i) (.out .ret (([Z, .ptr 0 0 0, I 2] ++ List.replicate 48 Z)) (h19 m)) (.out (.ext 0) (([Z, .ptr 0 0 0] ++ List.replicate 49 Z)) (h19 m))

theorem lp19 (m : Msg) : ∀ i : Int, 0 ≤ i → i ≤ 23 → LoopT P (loopAt Try.f19 7) (st19 i) (h19 m) (lt19 m i) := by
  apply upto
  intro i h0 h1 ih
  refine loop_tr Ep_ok L0 [1, 4] [1, 2] ((.node (decide (i < 23)) (
     .node (!usesS m.kind (↑((#[102, 110, 97, 111, 122, 118, 117, 116, 78, 81, 113, 105, 109, 112, 101, 79, 99, 100, 115, 69, 108, 84, 83] : Array UInt8).toList.getD i.toNat 0).toNat : Int)) (
      .node (!zeroS m (↑((#[102, 110, 97, 111, 122, 118, 117, 116, 78, 81, 113, 105, 109, 112, 101, 79, 99, 100, 115, 69, 108, 84, 83] : Array UInt8).toList.getD i.toNat 0).toNat : Int)) (
       .leaf ((Out.ret, ([Z, PV.ptr 0 0 0, I 2] ++ List.replicate 48 Z), [{ es := [m.cells], st := 0, par := [], sz := 39 }])) [0 ≤ i, i < 23, 0 ≤ i, i < 23, allN m.names.n fun i => isStr [S (m.names.f i)], allN m.qids.n fun i => isQid (m.qids.f i).cells]) (
       .leaf ((Out.norm, ([Z, PV.ptr 0 0 0, Z, Z, I (IntKind.i64.wrap (i + 1))] ++ List.replicate 46 Z), [{ es := [m.cells], st := 0, par := [], sz := 39 }])) [0 ≤ i, i < 23, 0 ≤ i, i < 23, allN m.names.n fun i => isStr [S (m.names.f i)], allN m.qids.n fun i => isQid (m.qids.f i).cells])) (
      .leaf ((Out.norm, ([Z, PV.ptr 0 0 0, Z, Z, I (IntKind.i64.wrap (i + 1))] ++ List.replicate 46 Z), [{ es := [m.cells], st := 0, par := [], sz := 39 }])) [0 ≤ i, i < 23])) (
     .leaf ((Out.ext 0, ([Z, PV.ptr 0 0 0] ++ List.replicate 49 Z), [{ es := [m.cells], st := 0, par := [], sz := 39 }])) []))) (by kernel_rfl) ?_
  have hst : i < 23 → anyFrom (badL m) letters i = (badL m (letters.getD i.toNat 0) || anyFrom (badL m) letters (i + 1)) := fun hi => anyFrom_step 0 h0 (by simpa [letters] using hi)
  have hgo : i < 23 ∧ badL m (letters.getD i.toNat 0) = false → LoopT P (loopAt Try.f19 7) (st19 (IntKind.i64.wrap (i + 1))) (h19 m) (lt19 m i) := by
    rintro ⟨hi, hb⟩
    rw [wrap64 (by omega) (by omega), show lt19 m i = lt19 m (i + 1) by simp only [lt19, hst hi, hb, Bool.false_or]]
    exact ih hi
  have hhit : i < 23 ∧ badL m (letters.getD i.toNat 0) = true → anyFrom (badL m) letters i = true := by
    rintro ⟨hi, hb⟩
    rw [hst hi, hb]; rfl
  have hend : ¬ i < 23 → anyFrom (badL m) letters i = false := fun hi => anyFrom_end (by simp [letters]; omega)
  have hL : ∀ k, (([102, 110, 97, 111, 122, 118, 117, 116, 78, 81, 113, 105, 109, 112, 101, 79, 99, 100, 115, 69, 108, 84, 83] : List UInt8)).getD k 0 = letters.getD k 0 := fun _ => rfl
  simp only [hL]
  generalize letters.getD i.toNat 0 = b at *
  simp only [Tr.All, AllP, Rnd, decide_eq_true_eq, decide_eq_false_iff_not, Bool.not_eq_true', Bool.not_eq_false']
  repeat' with_reducible first | intro _ | refine And.intro ?_ ?_
  all_goals first | trivial | omega | exact allN_iff.2 fun _ _ => rfl | exact hgo (by grind [badL]) | exact ends_t (hhit (by grind [badL])) rfl | exact ends_f (hend (by grind)) rfl

def faults (m : Msg) (s : ByteArray) : List Int := s.data.toList.map fun b => faultS m b.toNat
def st19b (s : ByteArray) (i : Int) : List PV := ([Z, .ptr 0 0 0, Z, Z, Z, S s, I i] ++ List.replicate 44 Z)
def lt19b (m : Msg) (s : ByteArray) (i : Int) : LT := .ite (anyFrom (fun x => x != 0) (faults m s) i) (.out .ret (([Z, Z, I (firstFrom (faults m s) i)] ++ List.replicate 48 Z)) []) (.out (.ext 2) (([] ++ List.replicate 51 Z)) [])

theorem lp19b (m : Msg) (hm : MsgW m) (s : ByteArray) (hs : s.size ≤ 9223372036854775807) : ∀ i : Int, 0 ≤ i → i ≤ s.size → LoopT P (loopAt Try.f19 13) (st19b s i) (h19 m) (lt19b m s i) := by
  apply upto
  intro i h0 h1 ih
  refine loop_tr Ep_ok L0 [1, 5, 6] [2] ((.node (decide (i < (↑s.size : Int))) (
     .node ((faultS m (↑(s.data.toList.getD i.toNat 0).toNat : Int) : Int) != 0) (
      .leaf ((Out.ret, ([Z, Z, I (faultS m (↑(s.data.toList.getD i.toNat 0).toNat : Int))] ++ List.replicate 48 Z), [])) [0 ≤ i, i < (↑s.size : Int), MsgW m, allN m.names.n fun i => isStr [S (m.names.f i)], allN m.qids.n fun i => isQid (m.qids.f i).cells]) (
      .leaf ((Out.norm, ([Z, PV.ptr 0 0 0, Z, Z, Z, S s, I (IntKind.i64.wrap (i + 1))] ++ List.replicate 44 Z), [{ es := [m.cells], st := 0, par := [], sz := 39 }])) [0 ≤ i, i < (↑s.size : Int), MsgW m, allN m.names.n fun i => isStr [S (m.names.f i)], allN m.qids.n fun i => isQid (m.qids.f i).cells])) (
     .leaf ((Out.ext 2, ([Z] ++ List.replicate 50 Z), [])) []))) (by kernel_rfl) ?_
  have hl : (faults m s).length = s.size := by simp [faults]
  have hg : i < s.size → (faults m s).getD i.toNat 0 = faultS m (s.data.toList.getD i.toNat 0).toNat := fun hi => by
    have hk : i.toNat < s.data.toList.length := by simp; omega
    simp only [faults, List.getD_eq_getElem?_getD, List.getElem?_map, List.getElem?_eq_getElem hk]
    rfl
  have hst : i < s.size → anyFrom (fun x => x != 0) (faults m s) i = (((faults m s).getD i.toNat 0 != 0) || anyFrom (fun x => x != 0) (faults m s) (i + 1)) := fun hi => anyFrom_step 0 h0 (by omega)
  have hst2 : i < s.size → firstFrom (faults m s) i = if (faults m s).getD i.toNat 0 = 0 then firstFrom (faults m s) (i + 1) else (faults m s).getD i.toNat 0 := fun hi => firstFrom_step h0 (by omega)
  have hgo : i < s.size ∧ faultS m (s.data.toList.getD i.toNat 0).toNat = 0 → LoopT P (loopAt Try.f19 13) (st19b s (IntKind.i64.wrap (i + 1))) (h19 m) (lt19b m s i) := by
    rintro ⟨hi, hb⟩
    rw [wrap64 (by omega) (by omega), show lt19b m s i = lt19b m s (i + 1) by simp only [lt19b, hst hi, hst2 hi, hg hi, hb, bne_self_eq_false, Bool.false_or, if_true]]
    exact ih hi
  have hhit : i < s.size ∧ faultS m (s.data.toList.getD i.toNat 0).toNat ≠ 0 → (lt19b m s i).ends (.ret, ([Z, Z, I (faultS m (s.data.toList.getD i.toNat 0).toNat)] ++ List.replicate 48 Z), []) := by
    rintro ⟨hi, hb⟩
    refine ends_t (by rw [hst hi, hg hi]; simp only [Bool.or_eq_true, bne_iff_ne]; exact .inl hb) ?_
    rw [hst2 hi, hg hi, if_neg hb]; rfl
  have hend : ¬ i < s.size → anyFrom (fun x => x != 0) (faults m s) i = false := fun hi => anyFrom_end (by omega)
  simp only [Tr.All, AllP, Rnd, decide_eq_true_eq, decide_eq_false_iff_not, bne_iff_ne, bne_eq_false_iff_eq]
  repeat' with_reducible first | intro _ | refine And.intro ?_ ?_
  all_goals first | trivial | omega | exact allN_iff.2 fun _ _ => rfl | assumption | exact hgo (by grind) | exact hhit (by grind) | exact ends_f (hend (by grind)) rfl

def L19 (m : Msg) : LEnv := fun k => if k = 7 then ([1, 4], fun _ _ => lt19 m 0) else ([1, 5, 6], fun _ _ => lt19b m (fieldsS m.kind) 0)
def rcheckE (m : Msg) : Int := if nameS m.kind = ⟨#[]⟩ then 2 else if tagOk m = false then 5 else if letters.any (badL m) then 2 else firstNz (faults m (fieldsS m.kind))

theorem rcheck19_ok (m : Msg) (hm : MsgW m) : Ok P 19 [.agg m.cells] (I (rcheckE m)) := by
  refine fn_tr Ep_ok (L19 m) Try.func19 ((.node (eqS (nameS m.kind) (⟨#[]⟩ : ByteArray)) (
     .leaf (I 2) []) (
     .node ((if tagOk m = true then 0 else 5 : Int) != 0) (
      .leaf (I (if tagOk m = true then 0 else 5)) [allN m.names.n fun i => isStr [S (m.names.f i)], allN m.qids.n fun i => isQid (m.qids.f i).cells]) (
      .node (anyFrom (badL m) letters 0) (
       .leaf (I 2) [allN m.names.n fun i => isStr [S (m.names.f i)], allN m.qids.n fun i => isQid (m.qids.f i).cells, LoopSem P (loopAt Try.f19 7) (([Z, PV.ptr 0 0 0, Z, Z, I 0] ++ List.replicate 46 Z)) ([{ es := [m.cells], st := 0, par := [], sz := 39 }]) (Out.ret) (([Z, PV.ptr 0 0 0, I 2] ++ List.replicate 48 Z)) ([{ es := [m.cells], st := 0, par := [], sz := 39 }])]) (
       .node (anyFrom (fun x => x != 0) (faults m (fieldsS m.kind)) 0) (
        .leaf (I (firstFrom (faults m (fieldsS m.kind)) 0)) [allN m.names.n fun i => isStr [S (m.names.f i)], allN m.qids.n fun i => isQid (m.qids.f i).cells, LoopSem P (loopAt Try.f19 7) (([Z, PV.ptr 0 0 0, Z, Z, I 0] ++ List.replicate 46 Z)) ([{ es := [m.cells], st := 0, par := [], sz := 39 }]) (Out.ext 0) (([Z, PV.ptr 0 0 0] ++ List.replicate 49 Z)) ([{ es := [m.cells], st := 0, par := [], sz := 39 }]), LoopSem P (loopAt Try.f19 13) (([Z, PV.ptr 0 0 0, Z, Z, Z, S (fieldsS m.kind), I 0] ++ List.replicate 44 Z)) ([{ es := [m.cells], st := 0, par := [], sz := 39 }]) (Out.ret) (([Z, Z, I (firstFrom (faults m (fieldsS m.kind)) 0)] ++ List.replicate 48 Z)) ([])]) (
        .leaf (I 0) [allN m.names.n fun i => isStr [S (m.names.f i)], allN m.qids.n fun i => isQid (m.qids.f i).cells, LoopSem P (loopAt Try.f19 7) (([Z, PV.ptr 0 0 0, Z, Z, I 0] ++ List.replicate 46 Z)) ([{ es := [m.cells], st := 0, par := [], sz := 39 }]) (Out.ext 0) (([Z, PV.ptr 0 0 0] ++ List.replicate 49 Z)) ([{ es := [m.cells], st := 0, par := [], sz := 39 }]), LoopSem P (loopAt Try.f19 13) (([Z, PV.ptr 0 0 0, Z, Z, Z, S (fieldsS m.kind), I 0] ++ List.replicate 44 Z)) ([{ es := [m.cells], st := 0, par := [], sz := 39 }]) (Out.ext 2) (([Z] ++ List.replicate 50 Z)) ([])])))))) (by kernel_rfl) ?_
  have hs := fields_size m.kind
  have hz : anyFrom (fun x => x != 0) (faults m (fieldsS m.kind)) 0 = false → firstNz (faults m (fieldsS m.kind)) = 0 := firstNz_any
  have hv : rcheckE m = if nameS m.kind = ⟨#[]⟩ then 2 else if tagOk m = false then 5 else if anyFrom (badL m) letters 0 then 2 else firstFrom (faults m (fieldsS m.kind)) 0 := rfl
  have hw : firstFrom (faults m (fieldsS m.kind)) 0 = firstNz (faults m (fieldsS m.kind)) := rfl
  have c1 := lp19 m 0 (by omega) (by omega)
  have c2 := lp19b m hm (fieldsS m.kind) (by omega) 0 (by omega) (by omega)
  simp only [Tr.All, AllP, decide_eq_true_eq, decide_eq_false_iff_not, bne_iff_ne, bne_eq_false_iff_eq, eqS_decide]
  repeat' with_reducible first | intro _ | refine And.intro ?_ ?_
  all_goals first | trivial | omega | exact allN_iff.2 fun _ _ => rfl | assumption | exact (c1.t (by assumption)).one | exact (c1.f (by assumption)).one | exact (c2.t (by assumption)).one | exact (c2.f (by assumption)).one | exact congrArg I (by grind)
end Go.Proofs.Ytnkmcmflfedmkaa
