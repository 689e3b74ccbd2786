/- Contracts of chapter 8: the fixed examples; the laws of kinds and names. -/
import Derived.Test.YtnkmcmflfedmkaaM16
namespace Go.Proofs.Ytnkmcmflfedmkaa
open Go.PS

theorem inr0 : InR 0 := ⟨by omega, by omega⟩

theorem awake_ok : Ok P 16 [] (Bo true) := by
  refine fn_tr El_ok L0 Try.func16 ((.say .conc (
    .say .conc (
    .say .conc (
    .say .conc (
    .say .conc (
    .say .conc (
    .say .conc (
    .say .conc (
    .say .conc (
    .say .conc (
    .say .conc (
    .say .conc (
    .say .conc (
    .leaf (Bo true) [true = true, true = true, MsgW { kind := 100, tag := 65535, fid := 0, newFid := 0, authFid := 0, oldTag := 0, msize := 8192, version := (⟨#[102, 115, 50, 48, 50, 54]⟩ : ByteArray), user := (⟨#[]⟩ : ByteArray), attach := (⟨#[]⟩ : ByteArray), names := { n := 0, f := fun i => default }, qids := { n := 0, f := fun i => default }, qid := { ty := 0, vers := 0, path := 0 }, iounit := 0, mode := 0, perm := 0, name := (⟨#[]⟩ : ByteArray), offset := 0, count := 0, data := (⟨#[]⟩ : ByteArray), stat := { ty := 0, dev := 0, qid := { ty := 0, vers := 0, path := 0 }, mode := 0, atime := 0, mtime := 0, len := 0, name := (⟨#[]⟩ : ByteArray), uid := (⟨#[]⟩ : ByteArray), gid := (⟨#[]⟩ : ByteArray), muid := (⟨#[]⟩ : ByteArray) }, err := 0, lease := 0, term := 0, session := (⟨#[]⟩ : ByteArray) }, true = true, true = true, MsgW { kind := 120, tag := 1, fid := 7, newFid := 0, authFid := 0, oldTag := 0, msize := 0, version := (⟨#[]⟩ : ByteArray), user := (⟨#[]⟩ : ByteArray), attach := (⟨#[]⟩ : ByteArray), names := { n := 0, f := fun i => default }, qids := { n := 0, f := fun i => default }, qid := { ty := 0, vers := 0, path := 0 }, iounit := 0, mode := 0, perm := 0, name := (⟨#[]⟩ : ByteArray), offset := 0, count := 0, data := (⟨#[]⟩ : ByteArray), stat := { ty := 0, dev := 0, qid := { ty := 0, vers := 0, path := 0 }, mode := 0, atime := 0, mtime := 0, len := 0, name := (⟨#[]⟩ : ByteArray), uid := (⟨#[]⟩ : ByteArray), gid := (⟨#[]⟩ : ByteArray), muid := (⟨#[]⟩ : ByteArray) }, err := 0, lease := 0, term := 0, session := (⟨#[]⟩ : ByteArray) }, true = true, true = true, MsgW { kind := 120, tag := 1, fid := 7, newFid := 0, authFid := 0, oldTag := 0, msize := 0, version := (⟨#[]⟩ : ByteArray), user := (⟨#[]⟩ : ByteArray), attach := (⟨#[]⟩ : ByteArray), names := { n := 0, f := fun i => default }, qids := { n := 0, f := fun i => default }, qid := { ty := 0, vers := 0, path := 0 }, iounit := 0, mode := 0, perm := 0, name := (⟨#[]⟩ : ByteArray), offset := 0, count := 1, data := (⟨#[]⟩ : ByteArray), stat := { ty := 0, dev := 0, qid := { ty := 0, vers := 0, path := 0 }, mode := 0, atime := 0, mtime := 0, len := 0, name := (⟨#[]⟩ : ByteArray), uid := (⟨#[]⟩ : ByteArray), gid := (⟨#[]⟩ : ByteArray), muid := (⟨#[]⟩ : ByteArray) }, err := 0, lease := 0, term := 0, session := (⟨#[]⟩ : ByteArray) }, true = true, true = true, true = true, true = true, true = true, true = true, true = true, true = true, true = true, true = true, MsgW { kind := 120, tag := 1, fid := 7, newFid := 0, authFid := 0, oldTag := 0, msize := 0, version := (⟨#[]⟩ : ByteArray), user := (⟨#[]⟩ : ByteArray), attach := (⟨#[]⟩ : ByteArray), names := { n := 0, f := fun i => default }, qids := { n := 0, f := fun i => default }, qid := { ty := 0, vers := 0, path := 0 }, iounit := 0, mode := 0, perm := 0, name := (⟨#[]⟩ : ByteArray), offset := 0, count := 0, data := (⟨#[]⟩ : ByteArray), stat := { ty := 0, dev := 0, qid := { ty := 0, vers := 0, path := 0 }, mode := 0, atime := 0, mtime := 0, len := 0, name := (⟨#[]⟩ : ByteArray), uid := (⟨#[]⟩ : ByteArray), gid := (⟨#[]⟩ : ByteArray), muid := (⟨#[]⟩ : ByteArray) }, err := 0, lease := 0, term := 0, session := (⟨#[]⟩ : ByteArray) }, true = true, true = true, true = true, true = true, MsgW { kind := 120, tag := 1, fid := 7, newFid := 0, authFid := 0, oldTag := 0, msize := 0, version := (⟨#[]⟩ : ByteArray), user := (⟨#[]⟩ : ByteArray), attach := (⟨#[]⟩ : ByteArray), names := { n := 0, f := fun i => default }, qids := { n := 0, f := fun i => default }, qid := { ty := 0, vers := 0, path := 0 }, iounit := 0, mode := 0, perm := 0, name := (⟨#[]⟩ : ByteArray), offset := 0, count := 0, data := (⟨#[]⟩ : ByteArray), stat := { ty := 0, dev := 0, qid := { ty := 0, vers := 0, path := 0 }, mode := 0, atime := 0, mtime := 0, len := 0, name := (⟨#[]⟩ : ByteArray), uid := (⟨#[]⟩ : ByteArray), gid := (⟨#[]⟩ : ByteArray), muid := (⟨#[]⟩ : ByteArray) }, err := 0, lease := 0, term := 0, session := (⟨#[]⟩ : ByteArray) }, true = true, true = true, true = true, true = true]))))))))))))))) (by kernel_rfl) ?_
  simp only [Tr.All, AllP]
  repeat' with_reducible first | intro _ | refine And.intro ?_ ?_
  all_goals first | trivial | omega | exact allN_iff.2 fun _ _ => rfl | (refine ⟨?_, ?_, ?_, ?_, ?_, ?_, ?_, ?_, ?_⟩ <;> first | exact inr0 | exact fun i hi => absurd hi (Nat.not_lt_zero i) | decide)

def Em : Env := addE 16 (fun l => match l with
  | [] => some (Bo true, [])
  | _ => none) El
theorem Em_ok : EnvOk P Em :=
  addE_ok El_ok (fun l r ob h ho => by split at h <;> cases h; exact awake_ok)

theorem kinds_ok (k : Int) : Ok P 3 [I k] (Bo true) := by
  refine fn_tr Em_ok L0 Try.func3 ((.node (eqS (nameS k) (nameS k)) (
     .node (reqS k == reqS k) (
      .node (replyS k == replyS k) (
       .leaf (Bo true) []) (
       .leaf (Bo false) [])) (
      .leaf (Bo false) [])) (
     .leaf (Bo false) []))) (by kernel_rfl) ?_
  simp only [Tr.All, AllP, decide_eq_true_eq, decide_eq_false_iff_not, beq_iff_eq, beq_eq_false_iff_ne, eqS_decide]
  repeat' with_reducible first | intro _ | refine And.intro ?_ ?_
  all_goals first | trivial | omega | exact congrArg Bo (by grind)

theorem nameS_inj (a b : Int) (h : a ≠ b) (hn : nameS a ≠ ⟨#[]⟩) : nameS a ≠ nameS b := by
  have key : ∀ x y : Fin 32, x ≠ y → nameTab.getD x.val default ≠ ⟨#[]⟩ → nameTab.getD x.val default ≠ nameTab.getD y.val default := by decide +kernel
  intro e
  unfold nameS at hn e
  by_cases h1 : 100 ≤ a ∧ a ≤ 131
  · rw [if_pos h1] at hn e
    by_cases h2 : 100 ≤ b ∧ b ≤ 131
    · rw [if_pos h2] at e
      exact key ⟨(a - 100).toNat, by omega⟩ ⟨(b - 100).toNat, by omega⟩ (by intro he; simp only [Fin.mk.injEq] at he; omega) hn e
    · rw [if_neg h2] at e
      exact hn e
  · rw [if_neg h1] at hn
    exact hn rfl

theorem names_empty {a : Int} (h : nameS a = ⟨#[]⟩) : reqS a = false := by simp [reqS, h]
theorem reply_req {a : Int} (h : reqS a = true) : nameS (replyS a) ≠ ⟨#[]⟩ ∧ reqS (replyS a) = false := by
  have hr := reqS_range h
  have key : ∀ x : Fin 32, reqS (100 + x.val) = true → nameS (100 + x.val + 1) ≠ ⟨#[]⟩ ∧ reqS (100 + x.val + 1) = false := by decide +kernel
  have := key ⟨(a - 100).toNat, by omega⟩
  have e : (100 + ((a - 100).toNat : Int)) = a := by omega
  simp only [e] at this
  rw [replyS, h, if_pos rfl]
  exact this h

theorem names4_ok (a b : Int) : Ok P 4 [I a, I b] (Bo true) := by
  refine fn_tr Em_ok L0 Try.func4 ((.node (eqS (nameS a) (⟨#[]⟩ : ByteArray)) (
     .node (!reqS a) (
      .node (replyS a == 0) (
       .leaf (Bo true) []) (
       .leaf (Bo false) [])) (
      .leaf (Bo false) [])) (
     .node (a != b) (
      .node (eqS (nameS a) (nameS b)) (
       .leaf (Bo false) []) (
       .node (!reqS a) (
        .node (replyS a == 0) (
         .leaf (Bo true) []) (
         .leaf (Bo false) [])) (
        .node (!eqS (nameS (replyS a)) (⟨#[]⟩ : ByteArray)) (
         .node (!reqS (replyS a)) (
          .leaf (Bo true) []) (
          .leaf (Bo false) [])) (
         .leaf (Bo false) [])))) (
      .node (!reqS a) (
       .node (replyS a == 0) (
        .leaf (Bo true) []) (
        .leaf (Bo false) [])) (
       .node (!eqS (nameS (replyS a)) (⟨#[]⟩ : ByteArray)) (
        .node (!reqS (replyS a)) (
         .leaf (Bo true) []) (
         .leaf (Bo false) [])) (
        .leaf (Bo false) [])))))) (by kernel_rfl) ?_
  have h1 : nameS a = ⟨#[]⟩ → reqS a = false := names_empty
  have h2 : reqS a = false → replyS a = 0 := fun h => by simp [replyS, h]
  have h3 : reqS a = true → nameS (replyS a) ≠ ⟨#[]⟩ ∧ reqS (replyS a) = false := reply_req
  have h4 : a ≠ b → nameS a ≠ ⟨#[]⟩ → nameS a ≠ nameS b := nameS_inj a b
  simp only [Tr.All, AllP, decide_eq_true_eq, decide_eq_false_iff_not, beq_iff_eq, beq_eq_false_iff_ne, bne_iff_ne, bne_eq_false_iff_eq, Bool.not_eq_true', Bool.not_eq_false', eqS_decide]
  repeat' with_reducible first | intro _ | refine And.intro ?_ ?_
  all_goals first | trivial | omega | exact congrArg Bo (by grind)
end Go.Proofs.Ytnkmcmflfedmkaa
