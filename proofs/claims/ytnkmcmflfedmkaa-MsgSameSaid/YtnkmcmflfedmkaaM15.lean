/- Contracts of chapter 8: Fail, Check, Answers. -/
import Derived.Test.YtnkmcmflfedmkaaM12
namespace Go.Proofs.Ytnkmcmflfedmkaa
open Go.PS

def failS (m : Msg) (e : Int) : Msg := { zMsg with kind := 107, tag := m.tag, err := e }

theorem fail_ok (m : Msg) (e : Int) : Ok P 24 [.agg m.cells, I e] (.agg (failS m e).cells) :=
  fn_trc Ei_ok L0 Try.func24 ((.leaf (PV.agg [I 107, I m.tag, I 0, I 0, I 0, I 0, I 0, S (⟨#[]⟩ : ByteArray), S (⟨#[]⟩ : ByteArray), S (⟨#[]⟩ : ByteArray), PV.rf 0 fun i => [], PV.rf 0 fun i => [], I 0, I 0, I 0, I 0, I 0, I 0, S (⟨#[]⟩ : ByteArray), I 0, I 0, S (⟨#[]⟩ : ByteArray), I 0, I 0, I 0, I 0, I 0, I 0, I 0, I 0, I 0, S (⟨#[]⟩ : ByteArray), S (⟨#[]⟩ : ByteArray), S (⟨#[]⟩ : ByteArray), S (⟨#[]⟩ : ByteArray), I e, I 0, I 0, S (⟨#[]⟩ : ByteArray)]) [])) (by kernel_rfl) ⟨trivial, lists0 rfl rfl⟩
theorem rfail_ok (m : Msg) (e : Int) : Ok P 26 [.agg m.cells, I e] (.agg (failS m e).cells) :=
  fn_trc Ei_ok L0 Try.func26 ((.leaf (PV.agg [I 107, I m.tag, I 0, I 0, I 0, I 0, I 0, S (⟨#[]⟩ : ByteArray), S (⟨#[]⟩ : ByteArray), S (⟨#[]⟩ : ByteArray), PV.rf 0 fun i => [], PV.rf 0 fun i => [], I 0, I 0, I 0, I 0, I 0, I 0, S (⟨#[]⟩ : ByteArray), I 0, I 0, S (⟨#[]⟩ : ByteArray), I 0, I 0, I 0, I 0, I 0, I 0, I 0, I 0, I 0, S (⟨#[]⟩ : ByteArray), S (⟨#[]⟩ : ByteArray), S (⟨#[]⟩ : ByteArray), S (⟨#[]⟩ : ByteArray), I e, I 0, I 0, S (⟨#[]⟩ : ByteArray)]) [])) (by kernel_rfl) ⟨trivial, lists0 rfl rfl⟩

def d24 : List PV → Option (PV × List Prop)
  | [.agg a, .sc (.int .i64 e)] => match msgOf a with
    | some (m, ob) => some (.agg (failS m e).cells, ob)
    | none => none
  | _ => none
def d27 : List PV → Option (PV × List Prop)
  | [.agg a, .agg b] => match msgOf a, msgOf b with
    | some (m, ob), some (o, ob') => some (Bo (sameS m o), MsgW m :: (ob ++ ob'))
    | _, _ => none
  | _ => none
def d29 : List PV → Option (PV × List Prop)
  | [.agg a] => match msgOf a with
    | some (m, ob) => some (Bo (tagOk m), ob)
    | none => none
  | _ => none
def d30 : List PV → Option (PV × List Prop)
  | [.agg a] => match msgOf a with
    | some (m, ob) => some (.agg (onlyS m).cells, ob)
    | none => none
  | _ => none
def d31 : List PV → Option (PV × List Prop)
  | [.agg a] => match msgOf a with
    | some (m, ob) => some (I (fieldsE m), MsgW m :: ob)
    | none => none
  | _ => none
def d32 : List PV → Option (PV × List Prop)
  | [.agg a] => match msgOf a with
    | some (m, ob) => some (I (if tagOk m then 0 else 5), ob)
    | none => none
  | _ => none

/-- A contract of a function of one message. -/
theorem msg1 {f : FuncId} {r : Msg → PV} {a : List PV} {m : Msg} {ob : List Prop} (hm : msgOf a = some (m, ob)) (ho : ∀ X ∈ ob, X) (h : Ok P f [.agg m.cells] (r m)) : Ok P f [.agg a] (r m) :=
  h.conv1 (msgOf_rep hm ho)

def Ej : Env := addE 24 d24 (addE 26 d24 (addE 27 d27 (addE 29 d29 (addE 30 d30 (addE 31 d31 (addE 32 d32 Ei))))))
theorem Ej_ok : EnvOk P Ej :=
  addE_ok (addE_ok (addE_ok (addE_ok (addE_ok (addE_ok (addE_ok Ei_ok
    (fun l r ob h ho => by
      unfold d32 at h
      split at h
      · split at h
        · cases h; exact msg1 (r := fun m => I (if tagOk m then 0 else 5)) (by assumption) ho (tag_ok _)
        · cases h
      · cases h))
    (fun l r ob h ho => by
      unfold d31 at h
      split at h
      · split at h
        · cases h; exact msg1 (r := fun m => I (fieldsE m)) (by assumption) (fun X hX => ho X (List.mem_cons_of_mem _ hX)) (fields_ok _ (ho _ List.mem_cons_self))
        · cases h
      · cases h))
    (fun l r ob h ho => by
      unfold d30 at h
      split at h
      · split at h
        · cases h; exact msg1 (r := fun m => .agg (onlyS m).cells) (by assumption) ho (only_ok _)
        · cases h
      · cases h))
    (fun l r ob h ho => by
      unfold d29 at h
      split at h
      · split at h
        · cases h; exact msg1 (r := fun m => Bo (tagOk m)) (by assumption) ho (tagged_ok _)
        · cases h
      · cases h))
    (fun l r ob h ho => by
      unfold d27 at h
      split at h
      · split at h
        · cases h
          exact (same_ok _ _ (ho _ List.mem_cons_self)).conv2 (msgOf_rep (by assumption) fun X hX => ho X (by simp [hX])) (msgOf_rep (by assumption) fun X hX => ho X (by simp [hX]))
        · cases h
      · cases h))
    (fun l r ob h ho => by
      unfold d24 at h
      split at h
      · split at h
        · cases h
          exact (rfail_ok _ _).conv2 (msgOf_rep (by assumption) ho) (fun _ _ _ h => h)
        · cases h
      · cases h))
    (fun l r ob h ho => by
      unfold d24 at h
      split at h
      · split at h
        · cases h
          exact (fail_ok _ _).conv2 (msgOf_rep (by assumption) ho) (fun _ _ _ h => h)
        · cases h
      · cases h)

theorem ite_w {c : Prop} [Decidable c] {a b : Msg} (h1 : MsgW a) (h2 : MsgW b) : MsgW (if c then a else b) := by split <;> assumption

theorem only_w {m : Msg} (h : MsgW m) : MsgW (onlyS m) := by
  have z : InR 0 := ⟨by omega, by omega⟩
  obtain ⟨h1, h2, h3, h4, h5, h6, h7, h8, h9⟩ := h
  have e : (⟨#[]⟩ : ByteArray).size ≤ 9223372036854775807 := by decide
  unfold onlyS restS
  dsimp only
  repeat' refine ite_w ?_ ?_
  all_goals (refine ⟨?_, ?_, ?_, ?_, ?_, ?_, ?_, ?_, ?_⟩ <;> first | assumption | exact z | exact e | (intro i hi; exact absurd hi (Nat.not_lt_zero i)) | exact Nat.zero_le _)

def checkE (m : Msg) : Int := if nameS m.kind = ⟨#[]⟩ then 2 else if tagOk m = false then 5 else if sameS (onlyS m) m = false then 2 else fieldsE m

theorem check18_ok (m : Msg) (hm : MsgW m) : Ok P 18 [.agg m.cells] (I (checkE m)) := by
  refine fn_tr Ej_ok L0 Try.func18 ((.node (eqS (nameS m.kind) (⟨#[]⟩ : ByteArray)) (
     .leaf (I 2) []) (
     .node (!tagOk m) (
      .leaf (I 5) [allN m.names.n fun i => isStr [S (m.names.f i)], allN m.qids.n fun i => isQid (m.qids.f i).cells]) (
      .node (!sameS (onlyS m) m) (
       .leaf (I 2) [allN m.names.n fun i => isStr [S (m.names.f i)], allN m.qids.n fun i => isQid (m.qids.f i).cells, allN m.names.n fun i => isStr [S (m.names.f i)], allN m.qids.n fun i => isQid (m.qids.f i).cells, MsgW (onlyS m), allN (onlyS m).names.n fun i => isStr [S ((onlyS m).names.f i)], allN (onlyS m).qids.n fun i => isQid ((onlyS m).qids.f i).cells, allN m.names.n fun i => isStr [S (m.names.f i)], allN m.qids.n fun i => isQid (m.qids.f i).cells]) (
       .leaf (I (fieldsE m)) [allN m.names.n fun i => isStr [S (m.names.f i)], allN m.qids.n fun i => isQid (m.qids.f i).cells, allN m.names.n fun i => isStr [S (m.names.f i)], allN m.qids.n fun i => isQid (m.qids.f i).cells, MsgW (onlyS m), allN (onlyS m).names.n fun i => isStr [S ((onlyS m).names.f i)], allN (onlyS m).qids.n fun i => isQid ((onlyS m).qids.f i).cells, allN m.names.n fun i => isStr [S (m.names.f i)], allN m.qids.n fun i => isQid (m.qids.f i).cells, MsgW m, allN m.names.n fun i => isStr [S (m.names.f i)], allN m.qids.n fun i => isQid (m.qids.f i).cells]))))) (by kernel_rfl) ?_
  have hw := only_w hm
  simp only [Tr.All, AllP, decide_eq_true_eq, decide_eq_false_iff_not, Bool.not_eq_true', Bool.not_eq_false', eqS_decide]
  repeat' with_reducible first | intro _ | refine And.intro ?_ ?_
  all_goals first | trivial | omega | exact allN_iff.2 fun _ _ => rfl | assumption | exact congrArg I (by grind [checkE])
end Go.Proofs.Ytnkmcmflfedmkaa
