/- The program's Check and the reference's give the same for every message. -/
import Derived.Test.YtnkmcmflfedmkaaM20
namespace Go.Proofs.Ytnkmcmflfedmkaa
open Go.PS
set_option linter.unusedSimpArgs false
set_option linter.unusedVariables false

theorem list0 (x : FL ByteArray) : ((⟨0, fun _ => strOf []⟩ : FL ByteArray).list = x.list) ↔ x.n = 0 := by
  constructor
  · intro h; have := congrArg List.length h; simpa using this.symm
  · intro h; cases x; simp only at h; subst h; rfl
theorem list0q (x : FL Qid) : ((⟨0, fun _ => qidOf []⟩ : FL Qid).list = x.list) ↔ x.n = 0 := by
  constructor
  · intro h; have := congrArg List.length h; simpa using this.symm
  · intro h; cases x; simp only at h; subst h; rfl

theorem usesK (k c : Int) (l : List UInt8) (h : (fieldsS k).data.toList = l) : usesS k c = l.any (isC c) := by rw [usesS, h]

/-- From the two parts of a kind: which fields must be zero, and the error of the others. -/
theorem ck (m : Msg) (hs : sameS (onlyS m) m = !letters.any (badL m)) (hf : letters.any (badL m) = false → fieldsE m = firstNz (faults m (fieldsS m.kind))) : checkE m = rcheckE m := by
  unfold checkE rcheckE
  split
  · rfl
  · split
    · rfl
    · rw [hs]
      cases hb : letters.any (badL m) with
      | true => simp
      | false => simp [hf hb]


theorem ck100 (m : Msg) (hk : m.kind = 100) : checkE m = rcheckE m := by
  have hu : ∀ c, usesS m.kind c = ([122, 118] : List UInt8).any (isC c) := fun c => usesK _ _ _ (by rw [hk]; rfl)
  refine ck m ?_ fun hz => ?_
  · simp only [letters, badL, hu, List.any_cons, List.any_nil, isC, zeroS, zeroLateS]
    simp [sameS, sameP, onlyS, restS, hk, zMsg, list0, list0q]
    grind
  · have e : (fieldsS m.kind).data.toList = ([122, 118] : List UInt8) := by rw [hk]; rfl
    have z1 : inE 0 0 4294967294 = 0 := rfl
    have z2 : qidE zQid = 0 := rfl
    have z3 : inE 0 0 8192 = 0 := rfl
    have z4 : inE 0 0 9007199254740991 = 0 := rfl
    have z5 : shortE ⟨#[]⟩ 64 = 0 := rfl
    have z6 : shortE ⟨#[]⟩ 8168 = 0 := rfl
    simp only [letters, badL, hu, List.any_cons, List.any_nil, isC, zeroS, zeroLateS] at hz
    simp at hz
    have e2 : faults m (fieldsS m.kind) = [faultS m 122, faultS m 118] := by unfold faults; rw [e]; rfl
    rw [e2]
    simp [faultS, faultLateS, fieldsE, hk, hz, z1, z2, z3, z4, z5, z6, firstNz]
    try grind

theorem ck101 (m : Msg) (hk : m.kind = 101) : checkE m = rcheckE m := by
  have hu : ∀ c, usesS m.kind c = ([122, 118, 83] : List UInt8).any (isC c) := fun c => usesK _ _ _ (by rw [hk]; rfl)
  refine ck m ?_ fun hz => ?_
  · simp only [letters, badL, hu, List.any_cons, List.any_nil, isC, zeroS, zeroLateS]
    simp [sameS, sameP, onlyS, restS, hk, zMsg, list0, list0q]
    grind
  · have e : (fieldsS m.kind).data.toList = ([122, 118, 83] : List UInt8) := by rw [hk]; rfl
    have z1 : inE 0 0 4294967294 = 0 := rfl
    have z2 : qidE zQid = 0 := rfl
    have z3 : inE 0 0 8192 = 0 := rfl
    have z4 : inE 0 0 9007199254740991 = 0 := rfl
    have z5 : shortE ⟨#[]⟩ 64 = 0 := rfl
    have z6 : shortE ⟨#[]⟩ 8168 = 0 := rfl
    simp only [letters, badL, hu, List.any_cons, List.any_nil, isC, zeroS, zeroLateS] at hz
    simp at hz
    have e2 : faults m (fieldsS m.kind) = [faultS m 122, faultS m 118, faultS m 83] := by unfold faults; rw [e]; rfl
    rw [e2]
    simp [faultS, faultLateS, fieldsE, hk, hz, z1, z2, z3, z4, z5, z6, firstNz]
    try grind

theorem ck102 (m : Msg) (hk : m.kind = 102) : checkE m = rcheckE m := by
  have hu : ∀ c, usesS m.kind c = ([97, 117, 116] : List UInt8).any (isC c) := fun c => usesK _ _ _ (by rw [hk]; rfl)
  refine ck m ?_ fun hz => ?_
  · simp only [letters, badL, hu, List.any_cons, List.any_nil, isC, zeroS, zeroLateS]
    simp [sameS, sameP, onlyS, restS, hk, zMsg, list0, list0q]
    grind
  · have e : (fieldsS m.kind).data.toList = ([97, 117, 116] : List UInt8) := by rw [hk]; rfl
    have z1 : inE 0 0 4294967294 = 0 := rfl
    have z2 : qidE zQid = 0 := rfl
    have z3 : inE 0 0 8192 = 0 := rfl
    have z4 : inE 0 0 9007199254740991 = 0 := rfl
    have z5 : shortE ⟨#[]⟩ 64 = 0 := rfl
    have z6 : shortE ⟨#[]⟩ 8168 = 0 := rfl
    simp only [letters, badL, hu, List.any_cons, List.any_nil, isC, zeroS, zeroLateS] at hz
    simp at hz
    have e2 : faults m (fieldsS m.kind) = [faultS m 97, faultS m 117, faultS m 116] := by unfold faults; rw [e]; rfl
    rw [e2]
    simp [faultS, faultLateS, fieldsE, hk, hz, z1, z2, z3, z4, z5, z6, firstNz]
    try grind

theorem ck103 (m : Msg) (hk : m.kind = 103) : checkE m = rcheckE m := by
  have hu : ∀ c, usesS m.kind c = ([113] : List UInt8).any (isC c) := fun c => usesK _ _ _ (by rw [hk]; rfl)
  refine ck m ?_ fun hz => ?_
  · simp only [letters, badL, hu, List.any_cons, List.any_nil, isC, zeroS, zeroLateS]
    simp [sameS, sameP, onlyS, restS, hk, zMsg, list0, list0q]
    grind
  · have e : (fieldsS m.kind).data.toList = ([113] : List UInt8) := by rw [hk]; rfl
    have z1 : inE 0 0 4294967294 = 0 := rfl
    have z2 : qidE zQid = 0 := rfl
    have z3 : inE 0 0 8192 = 0 := rfl
    have z4 : inE 0 0 9007199254740991 = 0 := rfl
    have z5 : shortE ⟨#[]⟩ 64 = 0 := rfl
    have z6 : shortE ⟨#[]⟩ 8168 = 0 := rfl
    simp only [letters, badL, hu, List.any_cons, List.any_nil, isC, zeroS, zeroLateS] at hz
    simp at hz
    have e2 : faults m (fieldsS m.kind) = [faultS m 113] := by unfold faults; rw [e]; rfl
    rw [e2]
    simp [faultS, faultLateS, fieldsE, hk, hz, z1, z2, z3, z4, z5, z6, firstNz]
    try grind

theorem ck104 (m : Msg) (hk : m.kind = 104) : checkE m = rcheckE m := by
  have hu : ∀ c, usesS m.kind c = ([102, 97, 117, 116] : List UInt8).any (isC c) := fun c => usesK _ _ _ (by rw [hk]; rfl)
  refine ck m ?_ fun hz => ?_
  · simp only [letters, badL, hu, List.any_cons, List.any_nil, isC, zeroS, zeroLateS]
    simp [sameS, sameP, onlyS, restS, hk, zMsg, list0, list0q]
    grind
  · have e : (fieldsS m.kind).data.toList = ([102, 97, 117, 116] : List UInt8) := by rw [hk]; rfl
    have z1 : inE 0 0 4294967294 = 0 := rfl
    have z2 : qidE zQid = 0 := rfl
    have z3 : inE 0 0 8192 = 0 := rfl
    have z4 : inE 0 0 9007199254740991 = 0 := rfl
    have z5 : shortE ⟨#[]⟩ 64 = 0 := rfl
    have z6 : shortE ⟨#[]⟩ 8168 = 0 := rfl
    simp only [letters, badL, hu, List.any_cons, List.any_nil, isC, zeroS, zeroLateS] at hz
    simp at hz
    have e2 : faults m (fieldsS m.kind) = [faultS m 102, faultS m 97, faultS m 117, faultS m 116] := by unfold faults; rw [e]; rfl
    rw [e2]
    simp [faultS, faultLateS, fieldsE, hk, hz, z1, z2, z3, z4, z5, z6, firstNz]
    try grind

theorem ck105 (m : Msg) (hk : m.kind = 105) : checkE m = rcheckE m := by
  have hu : ∀ c, usesS m.kind c = ([113] : List UInt8).any (isC c) := fun c => usesK _ _ _ (by rw [hk]; rfl)
  refine ck m ?_ fun hz => ?_
  · simp only [letters, badL, hu, List.any_cons, List.any_nil, isC, zeroS, zeroLateS]
    simp [sameS, sameP, onlyS, restS, hk, zMsg, list0, list0q]
    grind
  · have e : (fieldsS m.kind).data.toList = ([113] : List UInt8) := by rw [hk]; rfl
    have z1 : inE 0 0 4294967294 = 0 := rfl
    have z2 : qidE zQid = 0 := rfl
    have z3 : inE 0 0 8192 = 0 := rfl
    have z4 : inE 0 0 9007199254740991 = 0 := rfl
    have z5 : shortE ⟨#[]⟩ 64 = 0 := rfl
    have z6 : shortE ⟨#[]⟩ 8168 = 0 := rfl
    simp only [letters, badL, hu, List.any_cons, List.any_nil, isC, zeroS, zeroLateS] at hz
    simp at hz
    have e2 : faults m (fieldsS m.kind) = [faultS m 113] := by unfold faults; rw [e]; rfl
    rw [e2]
    simp [faultS, faultLateS, fieldsE, hk, hz, z1, z2, z3, z4, z5, z6, firstNz]
    try grind

theorem ck107 (m : Msg) (hk : m.kind = 107) : checkE m = rcheckE m := by
  have hu : ∀ c, usesS m.kind c = ([69] : List UInt8).any (isC c) := fun c => usesK _ _ _ (by rw [hk]; rfl)
  refine ck m ?_ fun hz => ?_
  · simp only [letters, badL, hu, List.any_cons, List.any_nil, isC, zeroS, zeroLateS]
    simp [sameS, sameP, onlyS, restS, hk, zMsg, list0, list0q]
    grind
  · have e : (fieldsS m.kind).data.toList = ([69] : List UInt8) := by rw [hk]; rfl
    have z1 : inE 0 0 4294967294 = 0 := rfl
    have z2 : qidE zQid = 0 := rfl
    have z3 : inE 0 0 8192 = 0 := rfl
    have z4 : inE 0 0 9007199254740991 = 0 := rfl
    have z5 : shortE ⟨#[]⟩ 64 = 0 := rfl
    have z6 : shortE ⟨#[]⟩ 8168 = 0 := rfl
    simp only [letters, badL, hu, List.any_cons, List.any_nil, isC, zeroS, zeroLateS] at hz
    simp at hz
    have e2 : faults m (fieldsS m.kind) = [faultS m 69] := by unfold faults; rw [e]; rfl
    rw [e2]
    simp [faultS, faultLateS, fieldsE, hk, hz, z1, z2, z3, z4, z5, z6, firstNz]
    try grind

theorem ck108 (m : Msg) (hk : m.kind = 108) : checkE m = rcheckE m := by
  have hu : ∀ c, usesS m.kind c = ([111] : List UInt8).any (isC c) := fun c => usesK _ _ _ (by rw [hk]; rfl)
  refine ck m ?_ fun hz => ?_
  · simp only [letters, badL, hu, List.any_cons, List.any_nil, isC, zeroS, zeroLateS]
    simp [sameS, sameP, onlyS, restS, hk, zMsg, list0, list0q]
    grind
  · have e : (fieldsS m.kind).data.toList = ([111] : List UInt8) := by rw [hk]; rfl
    have z1 : inE 0 0 4294967294 = 0 := rfl
    have z2 : qidE zQid = 0 := rfl
    have z3 : inE 0 0 8192 = 0 := rfl
    have z4 : inE 0 0 9007199254740991 = 0 := rfl
    have z5 : shortE ⟨#[]⟩ 64 = 0 := rfl
    have z6 : shortE ⟨#[]⟩ 8168 = 0 := rfl
    simp only [letters, badL, hu, List.any_cons, List.any_nil, isC, zeroS, zeroLateS] at hz
    simp at hz
    have e2 : faults m (fieldsS m.kind) = [faultS m 111] := by unfold faults; rw [e]; rfl
    rw [e2]
    simp [faultS, faultLateS, fieldsE, hk, hz, z1, z2, z3, z4, z5, z6, firstNz]
    try grind

theorem ck109 (m : Msg) (hk : m.kind = 109) : checkE m = rcheckE m := by
  have hu : ∀ c, usesS m.kind c = ([] : List UInt8).any (isC c) := fun c => usesK _ _ _ (by rw [hk]; rfl)
  refine ck m ?_ fun hz => ?_
  · simp only [letters, badL, hu, List.any_cons, List.any_nil, isC, zeroS, zeroLateS]
    simp [sameS, sameP, onlyS, restS, hk, zMsg, list0, list0q]
    grind
  · have e : (fieldsS m.kind).data.toList = ([] : List UInt8) := by rw [hk]; rfl
    have z1 : inE 0 0 4294967294 = 0 := rfl
    have z2 : qidE zQid = 0 := rfl
    have z3 : inE 0 0 8192 = 0 := rfl
    have z4 : inE 0 0 9007199254740991 = 0 := rfl
    have z5 : shortE ⟨#[]⟩ 64 = 0 := rfl
    have z6 : shortE ⟨#[]⟩ 8168 = 0 := rfl
    simp only [letters, badL, hu, List.any_cons, List.any_nil, isC, zeroS, zeroLateS] at hz
    simp at hz
    have e2 : faults m (fieldsS m.kind) = [] := by unfold faults; rw [e]; rfl
    rw [e2]
    simp [faultS, faultLateS, fieldsE, hk, hz, z1, z2, z3, z4, z5, z6, firstNz]
    try grind

theorem ck110 (m : Msg) (hk : m.kind = 110) : checkE m = rcheckE m := by
  have hu : ∀ c, usesS m.kind c = ([102, 110, 78] : List UInt8).any (isC c) := fun c => usesK _ _ _ (by rw [hk]; rfl)
  refine ck m ?_ fun hz => ?_
  · simp only [letters, badL, hu, List.any_cons, List.any_nil, isC, zeroS, zeroLateS]
    simp [sameS, sameP, onlyS, restS, hk, zMsg, list0, list0q]
    grind
  · have e : (fieldsS m.kind).data.toList = ([102, 110, 78] : List UInt8) := by rw [hk]; rfl
    have z1 : inE 0 0 4294967294 = 0 := rfl
    have z2 : qidE zQid = 0 := rfl
    have z3 : inE 0 0 8192 = 0 := rfl
    have z4 : inE 0 0 9007199254740991 = 0 := rfl
    have z5 : shortE ⟨#[]⟩ 64 = 0 := rfl
    have z6 : shortE ⟨#[]⟩ 8168 = 0 := rfl
    simp only [letters, badL, hu, List.any_cons, List.any_nil, isC, zeroS, zeroLateS] at hz
    simp at hz
    have e2 : faults m (fieldsS m.kind) = [faultS m 102, faultS m 110, faultS m 78] := by unfold faults; rw [e]; rfl
    rw [e2]
    simp [faultS, faultLateS, fieldsE, hk, hz, z1, z2, z3, z4, z5, z6, firstNz]
    try grind

theorem ck111 (m : Msg) (hk : m.kind = 111) : checkE m = rcheckE m := by
  have hu : ∀ c, usesS m.kind c = ([81] : List UInt8).any (isC c) := fun c => usesK _ _ _ (by rw [hk]; rfl)
  refine ck m ?_ fun hz => ?_
  · simp only [letters, badL, hu, List.any_cons, List.any_nil, isC, zeroS, zeroLateS]
    simp [sameS, sameP, onlyS, restS, hk, zMsg, list0, list0q]
    grind
  · have e : (fieldsS m.kind).data.toList = ([81] : List UInt8) := by rw [hk]; rfl
    have z1 : inE 0 0 4294967294 = 0 := rfl
    have z2 : qidE zQid = 0 := rfl
    have z3 : inE 0 0 8192 = 0 := rfl
    have z4 : inE 0 0 9007199254740991 = 0 := rfl
    have z5 : shortE ⟨#[]⟩ 64 = 0 := rfl
    have z6 : shortE ⟨#[]⟩ 8168 = 0 := rfl
    simp only [letters, badL, hu, List.any_cons, List.any_nil, isC, zeroS, zeroLateS] at hz
    simp at hz
    have e2 : faults m (fieldsS m.kind) = [faultS m 81] := by unfold faults; rw [e]; rfl
    rw [e2]
    simp [faultS, faultLateS, fieldsE, hk, hz, z1, z2, z3, z4, z5, z6, firstNz]
    try grind

theorem ck112 (m : Msg) (hk : m.kind = 112) : checkE m = rcheckE m := by
  have hu : ∀ c, usesS m.kind c = ([102, 109] : List UInt8).any (isC c) := fun c => usesK _ _ _ (by rw [hk]; rfl)
  refine ck m ?_ fun hz => ?_
  · simp only [letters, badL, hu, List.any_cons, List.any_nil, isC, zeroS, zeroLateS]
    simp [sameS, sameP, onlyS, restS, hk, zMsg, list0, list0q]
    grind
  · have e : (fieldsS m.kind).data.toList = ([102, 109] : List UInt8) := by rw [hk]; rfl
    have z1 : inE 0 0 4294967294 = 0 := rfl
    have z2 : qidE zQid = 0 := rfl
    have z3 : inE 0 0 8192 = 0 := rfl
    have z4 : inE 0 0 9007199254740991 = 0 := rfl
    have z5 : shortE ⟨#[]⟩ 64 = 0 := rfl
    have z6 : shortE ⟨#[]⟩ 8168 = 0 := rfl
    simp only [letters, badL, hu, List.any_cons, List.any_nil, isC, zeroS, zeroLateS] at hz
    simp at hz
    have e2 : faults m (fieldsS m.kind) = [faultS m 102, faultS m 109] := by unfold faults; rw [e]; rfl
    rw [e2]
    simp [faultS, faultLateS, fieldsE, hk, hz, z1, z2, z3, z4, z5, z6, firstNz]
    try grind

theorem ck113 (m : Msg) (hk : m.kind = 113) : checkE m = rcheckE m := by
  have hu : ∀ c, usesS m.kind c = ([113, 105] : List UInt8).any (isC c) := fun c => usesK _ _ _ (by rw [hk]; rfl)
  refine ck m ?_ fun hz => ?_
  · simp only [letters, badL, hu, List.any_cons, List.any_nil, isC, zeroS, zeroLateS]
    simp [sameS, sameP, onlyS, restS, hk, zMsg, list0, list0q]
    grind
  · have e : (fieldsS m.kind).data.toList = ([113, 105] : List UInt8) := by rw [hk]; rfl
    have z1 : inE 0 0 4294967294 = 0 := rfl
    have z2 : qidE zQid = 0 := rfl
    have z3 : inE 0 0 8192 = 0 := rfl
    have z4 : inE 0 0 9007199254740991 = 0 := rfl
    have z5 : shortE ⟨#[]⟩ 64 = 0 := rfl
    have z6 : shortE ⟨#[]⟩ 8168 = 0 := rfl
    simp only [letters, badL, hu, List.any_cons, List.any_nil, isC, zeroS, zeroLateS] at hz
    simp at hz
    have e2 : faults m (fieldsS m.kind) = [faultS m 113, faultS m 105] := by unfold faults; rw [e]; rfl
    rw [e2]
    simp [faultS, faultLateS, fieldsE, hk, hz, z1, z2, z3, z4, z5, z6, firstNz]
    try grind

theorem ck114 (m : Msg) (hk : m.kind = 114) : checkE m = rcheckE m := by
  have hu : ∀ c, usesS m.kind c = ([102, 101, 112, 109] : List UInt8).any (isC c) := fun c => usesK _ _ _ (by rw [hk]; rfl)
  refine ck m ?_ fun hz => ?_
  · simp only [letters, badL, hu, List.any_cons, List.any_nil, isC, zeroS, zeroLateS]
    simp [sameS, sameP, onlyS, restS, hk, zMsg, list0, list0q]
    grind
  · have e : (fieldsS m.kind).data.toList = ([102, 101, 112, 109] : List UInt8) := by rw [hk]; rfl
    have z1 : inE 0 0 4294967294 = 0 := rfl
    have z2 : qidE zQid = 0 := rfl
    have z3 : inE 0 0 8192 = 0 := rfl
    have z4 : inE 0 0 9007199254740991 = 0 := rfl
    have z5 : shortE ⟨#[]⟩ 64 = 0 := rfl
    have z6 : shortE ⟨#[]⟩ 8168 = 0 := rfl
    simp only [letters, badL, hu, List.any_cons, List.any_nil, isC, zeroS, zeroLateS] at hz
    simp at hz
    have e2 : faults m (fieldsS m.kind) = [faultS m 102, faultS m 101, faultS m 112, faultS m 109] := by unfold faults; rw [e]; rfl
    rw [e2]
    simp [faultS, faultLateS, fieldsE, hk, hz, z1, z2, z3, z4, z5, z6, firstNz]
    try grind

theorem ck115 (m : Msg) (hk : m.kind = 115) : checkE m = rcheckE m := by
  have hu : ∀ c, usesS m.kind c = ([113, 105] : List UInt8).any (isC c) := fun c => usesK _ _ _ (by rw [hk]; rfl)
  refine ck m ?_ fun hz => ?_
  · simp only [letters, badL, hu, List.any_cons, List.any_nil, isC, zeroS, zeroLateS]
    simp [sameS, sameP, onlyS, restS, hk, zMsg, list0, list0q]
    grind
  · have e : (fieldsS m.kind).data.toList = ([113, 105] : List UInt8) := by rw [hk]; rfl
    have z1 : inE 0 0 4294967294 = 0 := rfl
    have z2 : qidE zQid = 0 := rfl
    have z3 : inE 0 0 8192 = 0 := rfl
    have z4 : inE 0 0 9007199254740991 = 0 := rfl
    have z5 : shortE ⟨#[]⟩ 64 = 0 := rfl
    have z6 : shortE ⟨#[]⟩ 8168 = 0 := rfl
    simp only [letters, badL, hu, List.any_cons, List.any_nil, isC, zeroS, zeroLateS] at hz
    simp at hz
    have e2 : faults m (fieldsS m.kind) = [faultS m 113, faultS m 105] := by unfold faults; rw [e]; rfl
    rw [e2]
    simp [faultS, faultLateS, fieldsE, hk, hz, z1, z2, z3, z4, z5, z6, firstNz]
    try grind

theorem ck116 (m : Msg) (hk : m.kind = 116) : checkE m = rcheckE m := by
  have hu : ∀ c, usesS m.kind c = ([102, 79, 99] : List UInt8).any (isC c) := fun c => usesK _ _ _ (by rw [hk]; rfl)
  refine ck m ?_ fun hz => ?_
  · simp only [letters, badL, hu, List.any_cons, List.any_nil, isC, zeroS, zeroLateS]
    simp [sameS, sameP, onlyS, restS, hk, zMsg, list0, list0q]
    grind
  · have e : (fieldsS m.kind).data.toList = ([102, 79, 99] : List UInt8) := by rw [hk]; rfl
    have z1 : inE 0 0 4294967294 = 0 := rfl
    have z2 : qidE zQid = 0 := rfl
    have z3 : inE 0 0 8192 = 0 := rfl
    have z4 : inE 0 0 9007199254740991 = 0 := rfl
    have z5 : shortE ⟨#[]⟩ 64 = 0 := rfl
    have z6 : shortE ⟨#[]⟩ 8168 = 0 := rfl
    simp only [letters, badL, hu, List.any_cons, List.any_nil, isC, zeroS, zeroLateS] at hz
    simp at hz
    have e2 : faults m (fieldsS m.kind) = [faultS m 102, faultS m 79, faultS m 99] := by unfold faults; rw [e]; rfl
    rw [e2]
    simp [faultS, faultLateS, fieldsE, hk, hz, z1, z2, z3, z4, z5, z6, firstNz]
    try grind

theorem ck117 (m : Msg) (hk : m.kind = 117) : checkE m = rcheckE m := by
  have hu : ∀ c, usesS m.kind c = ([100] : List UInt8).any (isC c) := fun c => usesK _ _ _ (by rw [hk]; rfl)
  refine ck m ?_ fun hz => ?_
  · simp only [letters, badL, hu, List.any_cons, List.any_nil, isC, zeroS, zeroLateS]
    simp [sameS, sameP, onlyS, restS, hk, zMsg, list0, list0q]
    grind
  · have e : (fieldsS m.kind).data.toList = ([100] : List UInt8) := by rw [hk]; rfl
    have z1 : inE 0 0 4294967294 = 0 := rfl
    have z2 : qidE zQid = 0 := rfl
    have z3 : inE 0 0 8192 = 0 := rfl
    have z4 : inE 0 0 9007199254740991 = 0 := rfl
    have z5 : shortE ⟨#[]⟩ 64 = 0 := rfl
    have z6 : shortE ⟨#[]⟩ 8168 = 0 := rfl
    simp only [letters, badL, hu, List.any_cons, List.any_nil, isC, zeroS, zeroLateS] at hz
    simp at hz
    have e2 : faults m (fieldsS m.kind) = [faultS m 100] := by unfold faults; rw [e]; rfl
    rw [e2]
    simp [faultS, faultLateS, fieldsE, hk, hz, z1, z2, z3, z4, z5, z6, firstNz]
    try grind

theorem ck118 (m : Msg) (hk : m.kind = 118) : checkE m = rcheckE m := by
  have hu : ∀ c, usesS m.kind c = ([102, 79, 100] : List UInt8).any (isC c) := fun c => usesK _ _ _ (by rw [hk]; rfl)
  refine ck m ?_ fun hz => ?_
  · simp only [letters, badL, hu, List.any_cons, List.any_nil, isC, zeroS, zeroLateS]
    simp [sameS, sameP, onlyS, restS, hk, zMsg, list0, list0q]
    grind
  · have e : (fieldsS m.kind).data.toList = ([102, 79, 100] : List UInt8) := by rw [hk]; rfl
    have z1 : inE 0 0 4294967294 = 0 := rfl
    have z2 : qidE zQid = 0 := rfl
    have z3 : inE 0 0 8192 = 0 := rfl
    have z4 : inE 0 0 9007199254740991 = 0 := rfl
    have z5 : shortE ⟨#[]⟩ 64 = 0 := rfl
    have z6 : shortE ⟨#[]⟩ 8168 = 0 := rfl
    simp only [letters, badL, hu, List.any_cons, List.any_nil, isC, zeroS, zeroLateS] at hz
    simp at hz
    have e2 : faults m (fieldsS m.kind) = [faultS m 102, faultS m 79, faultS m 100] := by unfold faults; rw [e]; rfl
    rw [e2]
    simp [faultS, faultLateS, fieldsE, hk, hz, z1, z2, z3, z4, z5, z6, firstNz]
    try grind

theorem ck119 (m : Msg) (hk : m.kind = 119) : checkE m = rcheckE m := by
  have hu : ∀ c, usesS m.kind c = ([99] : List UInt8).any (isC c) := fun c => usesK _ _ _ (by rw [hk]; rfl)
  refine ck m ?_ fun hz => ?_
  · simp only [letters, badL, hu, List.any_cons, List.any_nil, isC, zeroS, zeroLateS]
    simp [sameS, sameP, onlyS, restS, hk, zMsg, list0, list0q]
    grind
  · have e : (fieldsS m.kind).data.toList = ([99] : List UInt8) := by rw [hk]; rfl
    have z1 : inE 0 0 4294967294 = 0 := rfl
    have z2 : qidE zQid = 0 := rfl
    have z3 : inE 0 0 8192 = 0 := rfl
    have z4 : inE 0 0 9007199254740991 = 0 := rfl
    have z5 : shortE ⟨#[]⟩ 64 = 0 := rfl
    have z6 : shortE ⟨#[]⟩ 8168 = 0 := rfl
    simp only [letters, badL, hu, List.any_cons, List.any_nil, isC, zeroS, zeroLateS] at hz
    simp at hz
    have e2 : faults m (fieldsS m.kind) = [faultS m 99] := by unfold faults; rw [e]; rfl
    rw [e2]
    simp [faultS, faultLateS, fieldsE, hk, hz, z1, z2, z3, z4, z5, z6, firstNz]
    try grind

theorem ck120 (m : Msg) (hk : m.kind = 120) : checkE m = rcheckE m := by
  have hu : ∀ c, usesS m.kind c = ([102] : List UInt8).any (isC c) := fun c => usesK _ _ _ (by rw [hk]; rfl)
  refine ck m ?_ fun hz => ?_
  · simp only [letters, badL, hu, List.any_cons, List.any_nil, isC, zeroS, zeroLateS]
    simp [sameS, sameP, onlyS, restS, hk, zMsg, list0, list0q]
    grind
  · have e : (fieldsS m.kind).data.toList = ([102] : List UInt8) := by rw [hk]; rfl
    have z1 : inE 0 0 4294967294 = 0 := rfl
    have z2 : qidE zQid = 0 := rfl
    have z3 : inE 0 0 8192 = 0 := rfl
    have z4 : inE 0 0 9007199254740991 = 0 := rfl
    have z5 : shortE ⟨#[]⟩ 64 = 0 := rfl
    have z6 : shortE ⟨#[]⟩ 8168 = 0 := rfl
    simp only [letters, badL, hu, List.any_cons, List.any_nil, isC, zeroS, zeroLateS] at hz
    simp at hz
    have e2 : faults m (fieldsS m.kind) = [faultS m 102] := by unfold faults; rw [e]; rfl
    rw [e2]
    simp [faultS, faultLateS, fieldsE, hk, hz, z1, z2, z3, z4, z5, z6, firstNz]
    try grind

theorem ck121 (m : Msg) (hk : m.kind = 121) : checkE m = rcheckE m := by
  have hu : ∀ c, usesS m.kind c = ([] : List UInt8).any (isC c) := fun c => usesK _ _ _ (by rw [hk]; rfl)
  refine ck m ?_ fun hz => ?_
  · simp only [letters, badL, hu, List.any_cons, List.any_nil, isC, zeroS, zeroLateS]
    simp [sameS, sameP, onlyS, restS, hk, zMsg, list0, list0q]
    grind
  · have e : (fieldsS m.kind).data.toList = ([] : List UInt8) := by rw [hk]; rfl
    have z1 : inE 0 0 4294967294 = 0 := rfl
    have z2 : qidE zQid = 0 := rfl
    have z3 : inE 0 0 8192 = 0 := rfl
    have z4 : inE 0 0 9007199254740991 = 0 := rfl
    have z5 : shortE ⟨#[]⟩ 64 = 0 := rfl
    have z6 : shortE ⟨#[]⟩ 8168 = 0 := rfl
    simp only [letters, badL, hu, List.any_cons, List.any_nil, isC, zeroS, zeroLateS] at hz
    simp at hz
    have e2 : faults m (fieldsS m.kind) = [] := by unfold faults; rw [e]; rfl
    rw [e2]
    simp [faultS, faultLateS, fieldsE, hk, hz, z1, z2, z3, z4, z5, z6, firstNz]
    try grind

theorem ck122 (m : Msg) (hk : m.kind = 122) : checkE m = rcheckE m := by
  have hu : ∀ c, usesS m.kind c = ([102] : List UInt8).any (isC c) := fun c => usesK _ _ _ (by rw [hk]; rfl)
  refine ck m ?_ fun hz => ?_
  · simp only [letters, badL, hu, List.any_cons, List.any_nil, isC, zeroS, zeroLateS]
    simp [sameS, sameP, onlyS, restS, hk, zMsg, list0, list0q]
    grind
  · have e : (fieldsS m.kind).data.toList = ([102] : List UInt8) := by rw [hk]; rfl
    have z1 : inE 0 0 4294967294 = 0 := rfl
    have z2 : qidE zQid = 0 := rfl
    have z3 : inE 0 0 8192 = 0 := rfl
    have z4 : inE 0 0 9007199254740991 = 0 := rfl
    have z5 : shortE ⟨#[]⟩ 64 = 0 := rfl
    have z6 : shortE ⟨#[]⟩ 8168 = 0 := rfl
    simp only [letters, badL, hu, List.any_cons, List.any_nil, isC, zeroS, zeroLateS] at hz
    simp at hz
    have e2 : faults m (fieldsS m.kind) = [faultS m 102] := by unfold faults; rw [e]; rfl
    rw [e2]
    simp [faultS, faultLateS, fieldsE, hk, hz, z1, z2, z3, z4, z5, z6, firstNz]
    try grind

theorem ck123 (m : Msg) (hk : m.kind = 123) : checkE m = rcheckE m := by
  have hu : ∀ c, usesS m.kind c = ([] : List UInt8).any (isC c) := fun c => usesK _ _ _ (by rw [hk]; rfl)
  refine ck m ?_ fun hz => ?_
  · simp only [letters, badL, hu, List.any_cons, List.any_nil, isC, zeroS, zeroLateS]
    simp [sameS, sameP, onlyS, restS, hk, zMsg, list0, list0q]
    grind
  · have e : (fieldsS m.kind).data.toList = ([] : List UInt8) := by rw [hk]; rfl
    have z1 : inE 0 0 4294967294 = 0 := rfl
    have z2 : qidE zQid = 0 := rfl
    have z3 : inE 0 0 8192 = 0 := rfl
    have z4 : inE 0 0 9007199254740991 = 0 := rfl
    have z5 : shortE ⟨#[]⟩ 64 = 0 := rfl
    have z6 : shortE ⟨#[]⟩ 8168 = 0 := rfl
    simp only [letters, badL, hu, List.any_cons, List.any_nil, isC, zeroS, zeroLateS] at hz
    simp at hz
    have e2 : faults m (fieldsS m.kind) = [] := by unfold faults; rw [e]; rfl
    rw [e2]
    simp [faultS, faultLateS, fieldsE, hk, hz, z1, z2, z3, z4, z5, z6, firstNz]
    try grind

theorem ck124 (m : Msg) (hk : m.kind = 124) : checkE m = rcheckE m := by
  have hu : ∀ c, usesS m.kind c = ([102] : List UInt8).any (isC c) := fun c => usesK _ _ _ (by rw [hk]; rfl)
  refine ck m ?_ fun hz => ?_
  · simp only [letters, badL, hu, List.any_cons, List.any_nil, isC, zeroS, zeroLateS]
    simp [sameS, sameP, onlyS, restS, hk, zMsg, list0, list0q]
    grind
  · have e : (fieldsS m.kind).data.toList = ([102] : List UInt8) := by rw [hk]; rfl
    have z1 : inE 0 0 4294967294 = 0 := rfl
    have z2 : qidE zQid = 0 := rfl
    have z3 : inE 0 0 8192 = 0 := rfl
    have z4 : inE 0 0 9007199254740991 = 0 := rfl
    have z5 : shortE ⟨#[]⟩ 64 = 0 := rfl
    have z6 : shortE ⟨#[]⟩ 8168 = 0 := rfl
    simp only [letters, badL, hu, List.any_cons, List.any_nil, isC, zeroS, zeroLateS] at hz
    simp at hz
    have e2 : faults m (fieldsS m.kind) = [faultS m 102] := by unfold faults; rw [e]; rfl
    rw [e2]
    simp [faultS, faultLateS, fieldsE, hk, hz, z1, z2, z3, z4, z5, z6, firstNz]
    try grind

theorem ck125 (m : Msg) (hk : m.kind = 125) : checkE m = rcheckE m := by
  have hu : ∀ c, usesS m.kind c = ([115] : List UInt8).any (isC c) := fun c => usesK _ _ _ (by rw [hk]; rfl)
  refine ck m ?_ fun hz => ?_
  · simp only [letters, badL, hu, List.any_cons, List.any_nil, isC, zeroS, zeroLateS]
    simp [sameS, sameP, onlyS, restS, hk, zMsg, list0, list0q]
    grind
  · have e : (fieldsS m.kind).data.toList = ([115] : List UInt8) := by rw [hk]; rfl
    have z1 : inE 0 0 4294967294 = 0 := rfl
    have z2 : qidE zQid = 0 := rfl
    have z3 : inE 0 0 8192 = 0 := rfl
    have z4 : inE 0 0 9007199254740991 = 0 := rfl
    have z5 : shortE ⟨#[]⟩ 64 = 0 := rfl
    have z6 : shortE ⟨#[]⟩ 8168 = 0 := rfl
    simp only [letters, badL, hu, List.any_cons, List.any_nil, isC, zeroS, zeroLateS] at hz
    simp at hz
    have e2 : faults m (fieldsS m.kind) = [faultS m 115] := by unfold faults; rw [e]; rfl
    rw [e2]
    simp [faultS, faultLateS, fieldsE, hk, hz, z1, z2, z3, z4, z5, z6, firstNz]
    try grind

theorem ck126 (m : Msg) (hk : m.kind = 126) : checkE m = rcheckE m := by
  have hu : ∀ c, usesS m.kind c = ([102, 115] : List UInt8).any (isC c) := fun c => usesK _ _ _ (by rw [hk]; rfl)
  refine ck m ?_ fun hz => ?_
  · simp only [letters, badL, hu, List.any_cons, List.any_nil, isC, zeroS, zeroLateS]
    simp [sameS, sameP, onlyS, restS, hk, zMsg, list0, list0q]
    grind
  · have e : (fieldsS m.kind).data.toList = ([102, 115] : List UInt8) := by rw [hk]; rfl
    have z1 : inE 0 0 4294967294 = 0 := rfl
    have z2 : qidE zQid = 0 := rfl
    have z3 : inE 0 0 8192 = 0 := rfl
    have z4 : inE 0 0 9007199254740991 = 0 := rfl
    have z5 : shortE ⟨#[]⟩ 64 = 0 := rfl
    have z6 : shortE ⟨#[]⟩ 8168 = 0 := rfl
    simp only [letters, badL, hu, List.any_cons, List.any_nil, isC, zeroS, zeroLateS] at hz
    simp at hz
    have e2 : faults m (fieldsS m.kind) = [faultS m 102, faultS m 115] := by unfold faults; rw [e]; rfl
    rw [e2]
    simp [faultS, faultLateS, fieldsE, hk, hz, z1, z2, z3, z4, z5, z6, firstNz]
    try grind

theorem ck127 (m : Msg) (hk : m.kind = 127) : checkE m = rcheckE m := by
  have hu : ∀ c, usesS m.kind c = ([] : List UInt8).any (isC c) := fun c => usesK _ _ _ (by rw [hk]; rfl)
  refine ck m ?_ fun hz => ?_
  · simp only [letters, badL, hu, List.any_cons, List.any_nil, isC, zeroS, zeroLateS]
    simp [sameS, sameP, onlyS, restS, hk, zMsg, list0, list0q]
    grind
  · have e : (fieldsS m.kind).data.toList = ([] : List UInt8) := by rw [hk]; rfl
    have z1 : inE 0 0 4294967294 = 0 := rfl
    have z2 : qidE zQid = 0 := rfl
    have z3 : inE 0 0 8192 = 0 := rfl
    have z4 : inE 0 0 9007199254740991 = 0 := rfl
    have z5 : shortE ⟨#[]⟩ 64 = 0 := rfl
    have z6 : shortE ⟨#[]⟩ 8168 = 0 := rfl
    simp only [letters, badL, hu, List.any_cons, List.any_nil, isC, zeroS, zeroLateS] at hz
    simp at hz
    have e2 : faults m (fieldsS m.kind) = [] := by unfold faults; rw [e]; rfl
    rw [e2]
    simp [faultS, faultLateS, fieldsE, hk, hz, z1, z2, z3, z4, z5, z6, firstNz]
    try grind

theorem ck128 (m : Msg) (hk : m.kind = 128) : checkE m = rcheckE m := by
  have hu : ∀ c, usesS m.kind c = ([102, 108, 84] : List UInt8).any (isC c) := fun c => usesK _ _ _ (by rw [hk]; rfl)
  refine ck m ?_ fun hz => ?_
  · simp only [letters, badL, hu, List.any_cons, List.any_nil, isC, zeroS, zeroLateS]
    simp [sameS, sameP, onlyS, restS, hk, zMsg, list0, list0q]
    grind
  · have e : (fieldsS m.kind).data.toList = ([102, 108, 84] : List UInt8) := by rw [hk]; rfl
    have z1 : inE 0 0 4294967294 = 0 := rfl
    have z2 : qidE zQid = 0 := rfl
    have z3 : inE 0 0 8192 = 0 := rfl
    have z4 : inE 0 0 9007199254740991 = 0 := rfl
    have z5 : shortE ⟨#[]⟩ 64 = 0 := rfl
    have z6 : shortE ⟨#[]⟩ 8168 = 0 := rfl
    simp only [letters, badL, hu, List.any_cons, List.any_nil, isC, zeroS, zeroLateS] at hz
    simp at hz
    have e2 : faults m (fieldsS m.kind) = [faultS m 102, faultS m 108, faultS m 84] := by unfold faults; rw [e]; rfl
    rw [e2]
    simp [faultS, faultLateS, fieldsE, hk, hz, z1, z2, z3, z4, z5, z6, firstNz]
    try grind

theorem ck129 (m : Msg) (hk : m.kind = 129) : checkE m = rcheckE m := by
  have hu : ∀ c, usesS m.kind c = ([113, 108, 84] : List UInt8).any (isC c) := fun c => usesK _ _ _ (by rw [hk]; rfl)
  refine ck m ?_ fun hz => ?_
  · simp only [letters, badL, hu, List.any_cons, List.any_nil, isC, zeroS, zeroLateS]
    simp [sameS, sameP, onlyS, restS, hk, zMsg, list0, list0q]
    grind
  · have e : (fieldsS m.kind).data.toList = ([113, 108, 84] : List UInt8) := by rw [hk]; rfl
    have z1 : inE 0 0 4294967294 = 0 := rfl
    have z2 : qidE zQid = 0 := rfl
    have z3 : inE 0 0 8192 = 0 := rfl
    have z4 : inE 0 0 9007199254740991 = 0 := rfl
    have z5 : shortE ⟨#[]⟩ 64 = 0 := rfl
    have z6 : shortE ⟨#[]⟩ 8168 = 0 := rfl
    simp only [letters, badL, hu, List.any_cons, List.any_nil, isC, zeroS, zeroLateS] at hz
    simp at hz
    have e2 : faults m (fieldsS m.kind) = [faultS m 113, faultS m 108, faultS m 84] := by unfold faults; rw [e]; rfl
    rw [e2]
    simp [faultS, faultLateS, fieldsE, hk, hz, z1, z2, z3, z4, z5, z6, firstNz]
    try grind

theorem ck130 (m : Msg) (hk : m.kind = 130) : checkE m = rcheckE m := by
  have hu : ∀ c, usesS m.kind c = ([83] : List UInt8).any (isC c) := fun c => usesK _ _ _ (by rw [hk]; rfl)
  refine ck m ?_ fun hz => ?_
  · simp only [letters, badL, hu, List.any_cons, List.any_nil, isC, zeroS, zeroLateS]
    simp [sameS, sameP, onlyS, restS, hk, zMsg, list0, list0q]
    grind
  · have e : (fieldsS m.kind).data.toList = ([83] : List UInt8) := by rw [hk]; rfl
    have z1 : inE 0 0 4294967294 = 0 := rfl
    have z2 : qidE zQid = 0 := rfl
    have z3 : inE 0 0 8192 = 0 := rfl
    have z4 : inE 0 0 9007199254740991 = 0 := rfl
    have z5 : shortE ⟨#[]⟩ 64 = 0 := rfl
    have z6 : shortE ⟨#[]⟩ 8168 = 0 := rfl
    simp only [letters, badL, hu, List.any_cons, List.any_nil, isC, zeroS, zeroLateS] at hz
    simp at hz
    have e2 : faults m (fieldsS m.kind) = [faultS m 83] := by unfold faults; rw [e]; rfl
    rw [e2]
    simp [faultS, faultLateS, fieldsE, hk, hz, z1, z2, z3, z4, z5, z6, firstNz]
    try grind

theorem ck131 (m : Msg) (hk : m.kind = 131) : checkE m = rcheckE m := by
  have hu : ∀ c, usesS m.kind c = ([] : List UInt8).any (isC c) := fun c => usesK _ _ _ (by rw [hk]; rfl)
  refine ck m ?_ fun hz => ?_
  · simp only [letters, badL, hu, List.any_cons, List.any_nil, isC, zeroS, zeroLateS]
    simp [sameS, sameP, onlyS, restS, hk, zMsg, list0, list0q]
    grind
  · have e : (fieldsS m.kind).data.toList = ([] : List UInt8) := by rw [hk]; rfl
    have z1 : inE 0 0 4294967294 = 0 := rfl
    have z2 : qidE zQid = 0 := rfl
    have z3 : inE 0 0 8192 = 0 := rfl
    have z4 : inE 0 0 9007199254740991 = 0 := rfl
    have z5 : shortE ⟨#[]⟩ 64 = 0 := rfl
    have z6 : shortE ⟨#[]⟩ 8168 = 0 := rfl
    simp only [letters, badL, hu, List.any_cons, List.any_nil, isC, zeroS, zeroLateS] at hz
    simp at hz
    have e2 : faults m (fieldsS m.kind) = [] := by unfold faults; rw [e]; rfl
    rw [e2]
    simp [faultS, faultLateS, fieldsE, hk, hz, z1, z2, z3, z4, z5, z6, firstNz]
    try grind

theorem check_eq (m : Msg) : checkE m = rcheckE m := by
  by_cases hn : nameS m.kind = ⟨#[]⟩
  · unfold checkE rcheckE
    rw [if_pos hn, if_pos hn]
  · have hr : 100 ≤ m.kind ∧ m.kind ≤ 131 := by
      by_cases h : 100 ≤ m.kind ∧ m.kind ≤ 131
      · exact h
      · exact absurd (by rw [nameS, if_neg h]) hn
    have h6 : m.kind ≠ 106 := fun h => hn (by rw [h]; rfl)
    have hc : m.kind = 100 ∨ m.kind = 101 ∨ m.kind = 102 ∨ m.kind = 103 ∨ m.kind = 104 ∨ m.kind = 105 ∨ m.kind = 107 ∨ m.kind = 108 ∨ m.kind = 109 ∨ m.kind = 110 ∨ m.kind = 111 ∨ m.kind = 112 ∨ m.kind = 113 ∨ m.kind = 114 ∨ m.kind = 115 ∨ m.kind = 116 ∨ m.kind = 117 ∨ m.kind = 118 ∨ m.kind = 119 ∨ m.kind = 120 ∨ m.kind = 121 ∨ m.kind = 122 ∨ m.kind = 123 ∨ m.kind = 124 ∨ m.kind = 125 ∨ m.kind = 126 ∨ m.kind = 127 ∨ m.kind = 128 ∨ m.kind = 129 ∨ m.kind = 130 ∨ m.kind = 131 := by omega
    rcases hc with h | h | h | h | h | h | h | h | h | h | h | h | h | h | h | h | h | h | h | h | h | h | h | h | h | h | h | h | h | h | h
    · exact ck100 m h
    · exact ck101 m h
    · exact ck102 m h
    · exact ck103 m h
    · exact ck104 m h
    · exact ck105 m h
    · exact ck107 m h
    · exact ck108 m h
    · exact ck109 m h
    · exact ck110 m h
    · exact ck111 m h
    · exact ck112 m h
    · exact ck113 m h
    · exact ck114 m h
    · exact ck115 m h
    · exact ck116 m h
    · exact ck117 m h
    · exact ck118 m h
    · exact ck119 m h
    · exact ck120 m h
    · exact ck121 m h
    · exact ck122 m h
    · exact ck123 m h
    · exact ck124 m h
    · exact ck125 m h
    · exact ck126 m h
    · exact ck127 m h
    · exact ck128 m h
    · exact ck129 m h
    · exact ck130 m h
    · exact ck131 m h
end Go.Proofs.Ytnkmcmflfedmkaa
