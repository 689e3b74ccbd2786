/- Contracts of chapter 8: Same. -/
import Derived.Test.YtnkmcmflfedmkaaM11
namespace Go.Proofs.Ytnkmcmflfedmkaa
open Go.PS

theorem same1_ok (m : Msg) : Ok P 36 [.agg m.cells] (.agg [I m.kind, I m.tag, I m.fid, I m.newFid, I m.authFid, I m.oldTag, I m.msize, I m.iounit, I m.mode, I m.perm, I m.offset, I m.count, I m.lease]) :=
  fn_tr Eh_ok L0 Try.func36 ((.leaf (PV.agg [I m.kind, I m.tag, I m.fid, I m.newFid, I m.authFid, I m.oldTag, I m.msize, I m.iounit, I m.mode, I m.perm, I m.offset, I m.count, I m.lease]) [])) (by kernel_rfl) ⟨trivial, rfl⟩
theorem same2_ok (m : Msg) : Ok P 37 [.agg m.cells] (.agg [S m.version, S m.user, S m.attach, S m.name, S m.data, S m.session]) :=
  fn_tr Eh_ok L0 Try.func37 ((.leaf (PV.agg [S m.version, S m.user, S m.attach, S m.name, S m.data, S m.session]) [])) (by kernel_rfl) ⟨trivial, rfl⟩

def d36 : List PV → Option (PV × List Prop)
  | [.agg a] => match msgOf a with
    | some (m, ob) => some (.agg [I m.kind, I m.tag, I m.fid, I m.newFid, I m.authFid, I m.oldTag, I m.msize, I m.iounit, I m.mode, I m.perm, I m.offset, I m.count, I m.lease], ob)
    | none => none
  | _ => none
def d37 : List PV → Option (PV × List Prop)
  | [.agg a] => match msgOf a with
    | some (m, ob) => some (.agg [S m.version, S m.user, S m.attach, S m.name, S m.data, S m.session], ob)
    | none => none
  | _ => none
def d38 : List PV → Option (PV × List Prop)
  | [.rf n f, .rf n' f'] => some (Bo (decide ((ofN n fun i => strOf (f i)) = ofN n' fun i => strOf (f' i))), [allN n fun i => isStr (f i), allN n' fun i => isStr (f' i), n ≤ 9223372036854775807])
  | _ => none
def d39 : List PV → Option (PV × List Prop)
  | [.rf n f, .rf n' f'] => some (Bo (decide ((ofN n fun i => qidOf (f i)) = ofN n' fun i => qidOf (f' i))), [allN n fun i => isQid (f i), allN n' fun i => isQid (f' i), n ≤ 9223372036854775807])
  | _ => none
def Ei : Env := addE 36 d36 (addE 37 d37 (addE 38 d38 (addE 39 d39 Eh)))
theorem Ei_ok : EnvOk P Ei :=
  addE_ok (addE_ok (addE_ok (addE_ok Eh_ok
    (fun l r ob h ho => by unfold d39 at h; split at h <;> cases h; exact (equalQ_ok _ _ (by rw [ofN_length]; exact ho _ (by simp))).conv2 (qidL_conv (ho _ (by simp))) (qidL_conv (ho _ (by simp)))))
    (fun l r ob h ho => by unfold d38 at h; split at h <;> cases h; exact (equalS_ok _ _ (by rw [ofN_length]; exact ho _ (by simp))).conv2 (strs_conv (ho _ (by simp))) (strs_conv (ho _ (by simp)))))
    (fun l r ob h ho => by
      unfold d37 at h
      split at h
      · split at h
        · cases h
          exact (same2_ok _).conv1 (msgOf_rep (by assumption) ho)
        · cases h
      · cases h))
    (fun l r ob h ho => by
      unfold d36 at h
      split at h
      · split at h
        · cases h
          exact (same1_ok _).conv1 (msgOf_rep (by assumption) ho)
        · cases h
      · cases h)

/-- Two messages are equal. -/
def sameP (a b : Msg) : Prop := (a.kind = b.kind ∧ a.tag = b.tag ∧ a.fid = b.fid ∧ a.newFid = b.newFid ∧ a.authFid = b.authFid ∧ a.oldTag = b.oldTag ∧ a.msize = b.msize ∧ a.iounit = b.iounit ∧ a.mode = b.mode ∧ a.perm = b.perm ∧ a.offset = b.offset ∧ a.count = b.count ∧ a.lease = b.lease) ∧
  (a.version = b.version ∧ a.user = b.user ∧ a.attach = b.attach ∧ a.name = b.name ∧ a.data = b.data ∧ a.session = b.session) ∧ a.term = b.term ∧ a.err = b.err ∧ a.qid = b.qid ∧ a.stat = b.stat ∧ a.names.list = b.names.list ∧ a.qids.list = b.qids.list
instance (a b : Msg) : Decidable (sameP a b) := by unfold sameP; infer_instance
def sameS (a b : Msg) : Bool := decide (sameP a b)

theorem qid_eq (a b : Qid) : a = b ↔ a.ty = b.ty ∧ a.vers = b.vers ∧ a.path = b.path := by cases a; cases b; simp
theorem dir_eq (a b : Dir) : a = b ↔ a.ty = b.ty ∧ a.dev = b.dev ∧ (a.qid.ty = b.qid.ty ∧ a.qid.vers = b.qid.vers ∧ a.qid.path = b.qid.path) ∧ a.mode = b.mode ∧ a.atime = b.atime ∧ a.mtime = b.mtime ∧ a.len = b.len ∧ a.name = b.name ∧ a.uid = b.uid ∧ a.gid = b.gid ∧ a.muid = b.muid := by
  cases a; cases b; simp [qid_eq]

theorem same_ok (a b : Msg) (ha : MsgW a) : Ok P 27 [.agg a.cells, .agg b.cells] (Bo (sameS a b)) := by
  refine fn_tr Ei_ok L0 Try.func27 ((.node (a.kind == b.kind && (a.tag == b.tag && (a.fid == b.fid && (a.newFid == b.newFid && (a.authFid == b.authFid && (a.oldTag == b.oldTag && (a.msize == b.msize && (a.iounit == b.iounit && (a.mode == b.mode && (a.perm == b.perm && (a.offset == b.offset && (a.count == b.count && (a.lease == b.lease && true))))))))))))) (
     .node (eqS a.version b.version && (eqS a.user b.user && (eqS a.attach b.attach && (eqS a.name b.name && (eqS a.data b.data && (eqS a.session b.session && true)))))) (
      .node (a.term == b.term) (
       .node (a.err == b.err) (
        .node (a.qid.ty == b.qid.ty && (a.qid.vers == b.qid.vers && (a.qid.path == b.qid.path && true))) (
         .node (a.stat.ty == b.stat.ty && (a.stat.dev == b.stat.dev && (a.stat.qid.ty == b.stat.qid.ty && (a.stat.qid.vers == b.stat.qid.vers && (a.stat.qid.path == b.stat.qid.path && true)) && (a.stat.mode == b.stat.mode && (a.stat.atime == b.stat.atime && (a.stat.mtime == b.stat.mtime && (a.stat.len == b.stat.len && (eqS a.stat.name b.stat.name && (eqS a.stat.uid b.stat.uid && (eqS a.stat.gid b.stat.gid && (eqS a.stat.muid b.stat.muid && true))))))))))) (
          .node (decide (ofN a.names.n a.names.f = ofN b.names.n b.names.f)) (
           .leaf (Bo (decide (ofN a.qids.n a.qids.f = ofN b.qids.n b.qids.f))) [allN a.names.n fun i => isStr [S (a.names.f i)], allN a.qids.n fun i => isQid (a.qids.f i).cells, allN b.names.n fun i => isStr [S (b.names.f i)], allN b.qids.n fun i => isQid (b.qids.f i).cells, allN a.names.n fun i => isStr [S (a.names.f i)], allN a.qids.n fun i => isQid (a.qids.f i).cells, allN b.names.n fun i => isStr [S (b.names.f i)], allN b.qids.n fun i => isQid (b.qids.f i).cells, allN a.names.n fun i => isStr [S (a.names.f i)], allN b.names.n fun i => isStr [S (b.names.f i)], a.names.n ≤ 9223372036854775807, allN a.qids.n fun i => isQid (a.qids.f i).cells, allN b.qids.n fun i => isQid (b.qids.f i).cells, a.qids.n ≤ 9223372036854775807]) (
           .leaf (Bo false) [allN a.names.n fun i => isStr [S (a.names.f i)], allN a.qids.n fun i => isQid (a.qids.f i).cells, allN b.names.n fun i => isStr [S (b.names.f i)], allN b.qids.n fun i => isQid (b.qids.f i).cells, allN a.names.n fun i => isStr [S (a.names.f i)], allN a.qids.n fun i => isQid (a.qids.f i).cells, allN b.names.n fun i => isStr [S (b.names.f i)], allN b.qids.n fun i => isQid (b.qids.f i).cells, allN a.names.n fun i => isStr [S (a.names.f i)], allN b.names.n fun i => isStr [S (b.names.f i)], a.names.n ≤ 9223372036854775807])) (
          .leaf (Bo false) [allN a.names.n fun i => isStr [S (a.names.f i)], allN a.qids.n fun i => isQid (a.qids.f i).cells, allN b.names.n fun i => isStr [S (b.names.f i)], allN b.qids.n fun i => isQid (b.qids.f i).cells, allN a.names.n fun i => isStr [S (a.names.f i)], allN a.qids.n fun i => isQid (a.qids.f i).cells, allN b.names.n fun i => isStr [S (b.names.f i)], allN b.qids.n fun i => isQid (b.qids.f i).cells])) (
         .leaf (Bo false) [allN a.names.n fun i => isStr [S (a.names.f i)], allN a.qids.n fun i => isQid (a.qids.f i).cells, allN b.names.n fun i => isStr [S (b.names.f i)], allN b.qids.n fun i => isQid (b.qids.f i).cells, allN a.names.n fun i => isStr [S (a.names.f i)], allN a.qids.n fun i => isQid (a.qids.f i).cells, allN b.names.n fun i => isStr [S (b.names.f i)], allN b.qids.n fun i => isQid (b.qids.f i).cells])) (
        .leaf (Bo false) [allN a.names.n fun i => isStr [S (a.names.f i)], allN a.qids.n fun i => isQid (a.qids.f i).cells, allN b.names.n fun i => isStr [S (b.names.f i)], allN b.qids.n fun i => isQid (b.qids.f i).cells, allN a.names.n fun i => isStr [S (a.names.f i)], allN a.qids.n fun i => isQid (a.qids.f i).cells, allN b.names.n fun i => isStr [S (b.names.f i)], allN b.qids.n fun i => isQid (b.qids.f i).cells])) (
       .leaf (Bo false) [allN a.names.n fun i => isStr [S (a.names.f i)], allN a.qids.n fun i => isQid (a.qids.f i).cells, allN b.names.n fun i => isStr [S (b.names.f i)], allN b.qids.n fun i => isQid (b.qids.f i).cells, allN a.names.n fun i => isStr [S (a.names.f i)], allN a.qids.n fun i => isQid (a.qids.f i).cells, allN b.names.n fun i => isStr [S (b.names.f i)], allN b.qids.n fun i => isQid (b.qids.f i).cells])) (
      .leaf (Bo false) [allN a.names.n fun i => isStr [S (a.names.f i)], allN a.qids.n fun i => isQid (a.qids.f i).cells, allN b.names.n fun i => isStr [S (b.names.f i)], allN b.qids.n fun i => isQid (b.qids.f i).cells, allN a.names.n fun i => isStr [S (a.names.f i)], allN a.qids.n fun i => isQid (a.qids.f i).cells, allN b.names.n fun i => isStr [S (b.names.f i)], allN b.qids.n fun i => isQid (b.qids.f i).cells])) (
     .leaf (Bo false) [allN a.names.n fun i => isStr [S (a.names.f i)], allN a.qids.n fun i => isQid (a.qids.f i).cells, allN b.names.n fun i => isStr [S (b.names.f i)], allN b.qids.n fun i => isQid (b.qids.f i).cells]))) (by kernel_rfl) ?_
  have h1 := ha.nn
  have h2 := ha.qn
  simp only [Tr.All, AllP, decide_eq_true_eq, decide_eq_false_iff_not, beq_iff_eq, beq_eq_false_iff_ne, eqS_decide]
  repeat' with_reducible first | intro _ | refine And.intro ?_ ?_
  all_goals first | trivial | omega | exact allN_iff.2 fun _ _ => rfl | assumption | (refine congrArg Bo ?_ <;> simp_all [sameS, sameP, qid_eq, dir_eq, FL.list])
end Go.Proofs.Ytnkmcmflfedmkaa
