/- The values of chapter 8 as plain data, and how they lie in cells. -/
import Derived.Test.YtnkmcmflfedmkaaU1
import Derived.Test.YtnkmcmflfedmkaaRows
namespace Go.Proofs.Ytnkmcmflfedmkaa
open Go.PS

noncomputable abbrev P : Program := Try.prog

structure Qid where
  (ty vers path : Int)
  deriving DecidableEq, Inhabited

structure Dir where
  (ty dev : Int) (qid : Qid) (mode atime mtime len : Int) (name uid gid muid : ByteArray)
  deriving DecidableEq, Inhabited

structure Msg where
  (kind tag fid newFid authFid oldTag msize : Int) (version user attach : ByteArray) (names : FL ByteArray) (qids : FL Qid) (qid : Qid) (iounit mode perm : Int) (name : ByteArray) (offset count : Int) (data : ByteArray)
  (stat : Dir) (err lease term : Int) (session : ByteArray)

def Qid.cells (q : Qid) : List PV := [I q.ty, I q.vers, I q.path]
def Dir.cells (d : Dir) : List PV := [I d.ty, I d.dev, I d.qid.ty, I d.qid.vers, I d.qid.path, I d.mode, I d.atime, I d.mtime, I d.len, S d.name, S d.uid, S d.gid, S d.muid]
def qidL (l : List Qid) : PV := .rf l.length fun i => (l.getD i default).cells
def qidF (x : FL Qid) : PV := .rf x.n fun i => (x.f i).cells
def Msg.cells (m : Msg) : List PV := [I m.kind, I m.tag, I m.fid, I m.newFid, I m.authFid, I m.oldTag, I m.msize, S m.version, S m.user, S m.attach, strF m.names, qidF m.qids, I m.qid.ty, I m.qid.vers, I m.qid.path, I m.iounit, I m.mode, I m.perm, S m.name, I m.offset, I m.count, S m.data,
  I m.stat.ty, I m.stat.dev, I m.stat.qid.ty, I m.stat.qid.vers, I m.stat.qid.path, I m.stat.mode, I m.stat.atime, I m.stat.mtime, I m.stat.len, S m.stat.name, S m.stat.uid, S m.stat.gid, S m.stat.muid, I m.err, I m.lease, I m.term, S m.session]

def qidOf : List PV → Qid
  | [.sc (.int .i64 a), .sc (.int .i64 b), .sc (.int .i64 c)] => ⟨a, b, c⟩
  | _ => default
def isQid : List PV → Bool
  | [.sc (.int .i64 _), .sc (.int .i64 _), .sc (.int .i64 _)] => true
  | _ => false

theorem qidOf_is {e : List PV} (h : isQid e = true) : e = (qidOf e).cells := by
  unfold isQid at h
  split at h
  · rfl
  · cases h
theorem qidL_conv {n : Nat} {f : Nat → List PV} (h : allN n fun i => isQid (f i)) (w : World) (S : Nat → Prop) (v : Value) (hr : RepS w S (.rf n f) v) : RepS w S (qidL (ofN n fun i => qidOf (f i))) v := by
  unfold qidL
  rw [ofN_length]
  exact rf_conv (fun i hi => by rw [ofN_get _ _ _ _ hi]; exact qidOf_is (allN_iff.1 h i hi)) hr
theorem qidF_conv (x : FL Qid) (w : World) (S : Nat → Prop) (v : Value) (hr : RepS w S (qidF x) v) : RepS w S (qidL x.list) v := by
  unfold qidL
  rw [x.list_length]
  exact rf_conv (fun i hi => by rw [x.list_get _ _ hi]) hr
theorem qidF_of {n : Nat} {f : Nat → List PV} (h : allN n fun i => isQid (f i)) (w : World) (S : Nat → Prop) (v : Value) (hr : RepS w S (.rf n f) v) : RepS w S (qidF ⟨n, fun i => qidOf (f i)⟩) v :=
  rf_conv (fun i hi => qidOf_is (allN_iff.1 h i hi)) hr
end Go.Proofs.Ytnkmcmflfedmkaa
