/- Contracts of chapter 8: only, rest, fields. -/
import Derived.Test.YtnkmcmflfedmkaaM9a
namespace Go.Proofs.Ytnkmcmflfedmkaa
open Go.PS

def restS (m o : Msg) : Msg :=
  if m.kind = 116 then { o with fid := m.fid, offset := m.offset, count := m.count } else if m.kind = 117 then { o with data := m.data } else if m.kind = 118 then { o with fid := m.fid, offset := m.offset, data := m.data } else
  if m.kind = 119 then { o with count := m.count } else if m.kind = 120 ∨ m.kind = 122 ∨ m.kind = 124 then { o with fid := m.fid } else if m.kind = 125 then { o with stat := m.stat } else if m.kind = 126 then { o with fid := m.fid, stat := m.stat } else
  if m.kind = 128 then { o with fid := m.fid, lease := m.lease, term := m.term } else if m.kind = 129 then { o with qid := m.qid, lease := m.lease, term := m.term } else if m.kind = 130 then { o with session := m.session } else o

theorem rest_ok (m o : Msg) : Ok P 40 [.agg m.cells, .agg o.cells] (.agg (restS m o).cells) := by
  refine fn_tr Ef_ok L0 Try.func40 ((.node (m.kind == 116) (
     .leaf (PV.agg [I o.kind, I o.tag, I m.fid, I o.newFid, I o.authFid, I o.oldTag, I o.msize, S o.version, S o.user, S o.attach, strF o.names, qidF o.qids, I o.qid.ty, I o.qid.vers, I o.qid.path, I o.iounit, I o.mode, I o.perm, S o.name, I m.offset, I m.count, S o.data, I o.stat.ty, I o.stat.dev, I o.stat.qid.ty, I o.stat.qid.vers, I o.stat.qid.path, I o.stat.mode, I o.stat.atime, I o.stat.mtime, I o.stat.len, S o.stat.name, S o.stat.uid, S o.stat.gid, S o.stat.muid, I o.err, I o.lease, I o.term, S o.session]) []) (
     .node (m.kind == 117) (
      .leaf (PV.agg [I o.kind, I o.tag, I o.fid, I o.newFid, I o.authFid, I o.oldTag, I o.msize, S o.version, S o.user, S o.attach, strF o.names, qidF o.qids, I o.qid.ty, I o.qid.vers, I o.qid.path, I o.iounit, I o.mode, I o.perm, S o.name, I o.offset, I o.count, S m.data, I o.stat.ty, I o.stat.dev, I o.stat.qid.ty, I o.stat.qid.vers, I o.stat.qid.path, I o.stat.mode, I o.stat.atime, I o.stat.mtime, I o.stat.len, S o.stat.name, S o.stat.uid, S o.stat.gid, S o.stat.muid, I o.err, I o.lease, I o.term, S o.session]) []) (
      .node (m.kind == 118) (
       .leaf (PV.agg [I o.kind, I o.tag, I m.fid, I o.newFid, I o.authFid, I o.oldTag, I o.msize, S o.version, S o.user, S o.attach, strF o.names, qidF o.qids, I o.qid.ty, I o.qid.vers, I o.qid.path, I o.iounit, I o.mode, I o.perm, S o.name, I m.offset, I o.count, S m.data, I o.stat.ty, I o.stat.dev, I o.stat.qid.ty, I o.stat.qid.vers, I o.stat.qid.path, I o.stat.mode, I o.stat.atime, I o.stat.mtime, I o.stat.len, S o.stat.name, S o.stat.uid, S o.stat.gid, S o.stat.muid, I o.err, I o.lease, I o.term, S o.session]) []) (
       .node (m.kind == 119) (
        .leaf (PV.agg [I o.kind, I o.tag, I o.fid, I o.newFid, I o.authFid, I o.oldTag, I o.msize, S o.version, S o.user, S o.attach, strF o.names, qidF o.qids, I o.qid.ty, I o.qid.vers, I o.qid.path, I o.iounit, I o.mode, I o.perm, S o.name, I o.offset, I m.count, S o.data, I o.stat.ty, I o.stat.dev, I o.stat.qid.ty, I o.stat.qid.vers, I o.stat.qid.path, I o.stat.mode, I o.stat.atime, I o.stat.mtime, I o.stat.len, S o.stat.name, S o.stat.uid, S o.stat.gid, S o.stat.muid, I o.err, I o.lease, I o.term, S o.session]) []) (
        .node (m.kind == 120) (
         .leaf (PV.agg [I o.kind, I o.tag, I m.fid, I o.newFid, I o.authFid, I o.oldTag, I o.msize, S o.version, S o.user, S o.attach, strF o.names, qidF o.qids, I o.qid.ty, I o.qid.vers, I o.qid.path, I o.iounit, I o.mode, I o.perm, S o.name, I o.offset, I o.count, S o.data, I o.stat.ty, I o.stat.dev, I o.stat.qid.ty, I o.stat.qid.vers, I o.stat.qid.path, I o.stat.mode, I o.stat.atime, I o.stat.mtime, I o.stat.len, S o.stat.name, S o.stat.uid, S o.stat.gid, S o.stat.muid, I o.err, I o.lease, I o.term, S o.session]) []) (
         .node (m.kind == 122) (
          .leaf (PV.agg [I o.kind, I o.tag, I m.fid, I o.newFid, I o.authFid, I o.oldTag, I o.msize, S o.version, S o.user, S o.attach, strF o.names, qidF o.qids, I o.qid.ty, I o.qid.vers, I o.qid.path, I o.iounit, I o.mode, I o.perm, S o.name, I o.offset, I o.count, S o.data, I o.stat.ty, I o.stat.dev, I o.stat.qid.ty, I o.stat.qid.vers, I o.stat.qid.path, I o.stat.mode, I o.stat.atime, I o.stat.mtime, I o.stat.len, S o.stat.name, S o.stat.uid, S o.stat.gid, S o.stat.muid, I o.err, I o.lease, I o.term, S o.session]) []) (
          .node (m.kind == 124) (
           .leaf (PV.agg [I o.kind, I o.tag, I m.fid, I o.newFid, I o.authFid, I o.oldTag, I o.msize, S o.version, S o.user, S o.attach, strF o.names, qidF o.qids, I o.qid.ty, I o.qid.vers, I o.qid.path, I o.iounit, I o.mode, I o.perm, S o.name, I o.offset, I o.count, S o.data, I o.stat.ty, I o.stat.dev, I o.stat.qid.ty, I o.stat.qid.vers, I o.stat.qid.path, I o.stat.mode, I o.stat.atime, I o.stat.mtime, I o.stat.len, S o.stat.name, S o.stat.uid, S o.stat.gid, S o.stat.muid, I o.err, I o.lease, I o.term, S o.session]) []) (
           .node (m.kind == 125) (
            .leaf (PV.agg [I o.kind, I o.tag, I o.fid, I o.newFid, I o.authFid, I o.oldTag, I o.msize, S o.version, S o.user, S o.attach, strF o.names, qidF o.qids, I o.qid.ty, I o.qid.vers, I o.qid.path, I o.iounit, I o.mode, I o.perm, S o.name, I o.offset, I o.count, S o.data, I m.stat.ty, I m.stat.dev, I m.stat.qid.ty, I m.stat.qid.vers, I m.stat.qid.path, I m.stat.mode, I m.stat.atime, I m.stat.mtime, I m.stat.len, S m.stat.name, S m.stat.uid, S m.stat.gid, S m.stat.muid, I o.err, I o.lease, I o.term, S o.session]) []) (
            .node (m.kind == 126) (
             .leaf (PV.agg [I o.kind, I o.tag, I m.fid, I o.newFid, I o.authFid, I o.oldTag, I o.msize, S o.version, S o.user, S o.attach, strF o.names, qidF o.qids, I o.qid.ty, I o.qid.vers, I o.qid.path, I o.iounit, I o.mode, I o.perm, S o.name, I o.offset, I o.count, S o.data, I m.stat.ty, I m.stat.dev, I m.stat.qid.ty, I m.stat.qid.vers, I m.stat.qid.path, I m.stat.mode, I m.stat.atime, I m.stat.mtime, I m.stat.len, S m.stat.name, S m.stat.uid, S m.stat.gid, S m.stat.muid, I o.err, I o.lease, I o.term, S o.session]) []) (
             .node (m.kind == 128) (
              .leaf (PV.agg [I o.kind, I o.tag, I m.fid, I o.newFid, I o.authFid, I o.oldTag, I o.msize, S o.version, S o.user, S o.attach, strF o.names, qidF o.qids, I o.qid.ty, I o.qid.vers, I o.qid.path, I o.iounit, I o.mode, I o.perm, S o.name, I o.offset, I o.count, S o.data, I o.stat.ty, I o.stat.dev, I o.stat.qid.ty, I o.stat.qid.vers, I o.stat.qid.path, I o.stat.mode, I o.stat.atime, I o.stat.mtime, I o.stat.len, S o.stat.name, S o.stat.uid, S o.stat.gid, S o.stat.muid, I o.err, I m.lease, I m.term, S o.session]) []) (
              .node (m.kind == 129) (
               .leaf (PV.agg [I o.kind, I o.tag, I o.fid, I o.newFid, I o.authFid, I o.oldTag, I o.msize, S o.version, S o.user, S o.attach, strF o.names, qidF o.qids, I m.qid.ty, I m.qid.vers, I m.qid.path, I o.iounit, I o.mode, I o.perm, S o.name, I o.offset, I o.count, S o.data, I o.stat.ty, I o.stat.dev, I o.stat.qid.ty, I o.stat.qid.vers, I o.stat.qid.path, I o.stat.mode, I o.stat.atime, I o.stat.mtime, I o.stat.len, S o.stat.name, S o.stat.uid, S o.stat.gid, S o.stat.muid, I o.err, I m.lease, I m.term, S o.session]) []) (
               .node (m.kind == 130) (
                .leaf (PV.agg [I o.kind, I o.tag, I o.fid, I o.newFid, I o.authFid, I o.oldTag, I o.msize, S o.version, S o.user, S o.attach, strF o.names, qidF o.qids, I o.qid.ty, I o.qid.vers, I o.qid.path, I o.iounit, I o.mode, I o.perm, S o.name, I o.offset, I o.count, S o.data, I o.stat.ty, I o.stat.dev, I o.stat.qid.ty, I o.stat.qid.vers, I o.stat.qid.path, I o.stat.mode, I o.stat.atime, I o.stat.mtime, I o.stat.len, S o.stat.name, S o.stat.uid, S o.stat.gid, S o.stat.muid, I o.err, I o.lease, I o.term, S m.session]) []) (
                .leaf (PV.agg o.cells) [])))))))))))))) (by kernel_rfl) ?_
  simp only [Tr.All, AllP, beq_iff_eq, beq_eq_false_iff_ne]
  repeat' with_reducible first | intro _ | refine And.intro ?_ ?_
  all_goals first | trivial | omega | (unfold restS <;> simp only [*, ↓reduceIte, Int.reduceEq, or_true, or_false] <;> rfl)

def d40 : List PV → Option (PV × List Prop)
  | [.agg a, .agg b] => match msgOf a, msgOf b with
    | some (m, ob), some (o, ob') => some (.agg (restS m o).cells, ob ++ ob')
    | _, _ => none
  | _ => none
def Eg : Env := addE 40 d40 Ef
theorem Eg_ok : EnvOk P Eg :=
  addE_ok Ef_ok
    (fun l r ob h ho => by
      unfold d40 at h
      split at h
      · split at h
        · rename_i hm _ _ ho'
          cases h
          exact (rest_ok _ _).conv2 (msgOf_rep (by assumption) fun X hX => ho X (by simp [hX])) (msgOf_rep (by assumption) fun X hX => ho X (by simp [hX]))
        · cases h
      · cases h)

def zQid : Qid := ⟨0, 0, 0⟩
def zDir : Dir := ⟨0, 0, zQid, 0, 0, 0, 0, ⟨#[]⟩, ⟨#[]⟩, ⟨#[]⟩, ⟨#[]⟩⟩
def zMsg : Msg := ⟨0, 0, 0, 0, 0, 0, 0, ⟨#[]⟩, ⟨#[]⟩, ⟨#[]⟩, ⟨0, fun _ => strOf []⟩, ⟨0, fun _ => qidOf []⟩, zQid, 0, 0, 0, ⟨#[]⟩, 0, 0, ⟨#[]⟩, zDir, 0, 0, 0, ⟨#[]⟩⟩

def onlyS (m : Msg) : Msg :=
  let o : Msg := { zMsg with kind := m.kind, tag := m.tag }
  if m.kind = 100 then { o with msize := m.msize, version := m.version } else if m.kind = 101 then { o with msize := m.msize, version := m.version, session := m.session } else
  if m.kind = 102 then { o with authFid := m.authFid, user := m.user, attach := m.attach } else if m.kind = 104 then { o with fid := m.fid, authFid := m.authFid, user := m.user, attach := m.attach } else
  if m.kind = 103 ∨ m.kind = 105 then { o with qid := m.qid } else if m.kind = 107 then { o with err := m.err } else if m.kind = 108 then { o with oldTag := m.oldTag } else
  if m.kind = 110 then { o with fid := m.fid, newFid := m.newFid, names := m.names } else if m.kind = 111 then { o with qids := m.qids } else if m.kind = 112 then { o with fid := m.fid, mode := m.mode } else
  if m.kind = 113 ∨ m.kind = 115 then { o with qid := m.qid, iounit := m.iounit } else if m.kind = 114 then { o with fid := m.fid, name := m.name, perm := m.perm, mode := m.mode } else restS m o

theorem rf0 {f g : Nat → List PV} (w : World) (Sx : Nat → Prop) (v : Value) (h : RepS w Sx (.rf 0 f) v) : RepS w Sx (.rf 0 g) v := rf_conv (fun i hi => absurd hi (Nat.not_lt_zero i)) h

theorem lists0 {cs : List PV} {f g f' g' : Nat → List PV} (h1 : cs[10]? = some (.rf 0 f)) (h2 : cs[11]? = some (.rf 0 g)) : RLe (.agg cs) (.agg ((cs.set 10 (.rf 0 f')).set 11 (.rf 0 g'))) := fun w Sx v hr =>
  agg_set (k := 11) (by rw [List.getElem?_set_ne (by omega)]; exact h2) (fun v hv => rf0 w Sx v hv) (agg_set (k := 10) h1 (fun v hv => rf0 w Sx v hv) hr)
theorem lists1 {cs : List PV} {g g' : Nat → List PV} (h2 : cs[11]? = some (.rf 0 g)) : RLe (.agg cs) (.agg (cs.set 11 (.rf 0 g'))) := fun w Sx _ hr =>
  agg_set (k := 11) h2 (fun v hv => rf0 w Sx v hv) hr
theorem lists2 {cs : List PV} {f f' : Nat → List PV} (h1 : cs[10]? = some (.rf 0 f)) : RLe (.agg cs) (.agg (cs.set 10 (.rf 0 f'))) := fun w Sx _ hr =>
  agg_set (k := 10) h1 (fun v hv => rf0 w Sx v hv) hr

theorem only_ok (m : Msg) : Ok P 30 [.agg m.cells] (.agg (onlyS m).cells) := by
  refine fn_trc Eg_ok L0 Try.func30 ((.node (m.kind == 100) (
     .leaf (PV.agg [I m.kind, I m.tag, I 0, I 0, I 0, I 0, I m.msize, S m.version, S (⟨#[]⟩ : ByteArray), S (⟨#[]⟩ : ByteArray), PV.rf 0 fun i => [], PV.rf 0 fun i => [], I 0, I 0, I 0, I 0, I 0, I 0, S (⟨#[]⟩ : ByteArray), I 0, I 0, S (⟨#[]⟩ : ByteArray), I 0, I 0, I 0, I 0, I 0, I 0, I 0, I 0, I 0, S (⟨#[]⟩ : ByteArray), S (⟨#[]⟩ : ByteArray), S (⟨#[]⟩ : ByteArray), S (⟨#[]⟩ : ByteArray), I 0, I 0, I 0, S (⟨#[]⟩ : ByteArray)]) []) (
     .node (m.kind == 101) (
      .leaf (PV.agg [I m.kind, I m.tag, I 0, I 0, I 0, I 0, I m.msize, S m.version, S (⟨#[]⟩ : ByteArray), S (⟨#[]⟩ : ByteArray), PV.rf 0 fun i => [], PV.rf 0 fun i => [], I 0, I 0, I 0, I 0, I 0, I 0, S (⟨#[]⟩ : ByteArray), I 0, I 0, S (⟨#[]⟩ : ByteArray), I 0, I 0, I 0, I 0, I 0, I 0, I 0, I 0, I 0, S (⟨#[]⟩ : ByteArray), S (⟨#[]⟩ : ByteArray), S (⟨#[]⟩ : ByteArray), S (⟨#[]⟩ : ByteArray), I 0, I 0, I 0, S m.session]) []) (
      .node (m.kind == 102) (
       .leaf (PV.agg [I m.kind, I m.tag, I 0, I 0, I m.authFid, I 0, I 0, S (⟨#[]⟩ : ByteArray), S m.user, S m.attach, PV.rf 0 fun i => [], PV.rf 0 fun i => [], I 0, I 0, I 0, I 0, I 0, I 0, S (⟨#[]⟩ : ByteArray), I 0, I 0, S (⟨#[]⟩ : ByteArray), I 0, I 0, I 0, I 0, I 0, I 0, I 0, I 0, I 0, S (⟨#[]⟩ : ByteArray), S (⟨#[]⟩ : ByteArray), S (⟨#[]⟩ : ByteArray), S (⟨#[]⟩ : ByteArray), I 0, I 0, I 0, S (⟨#[]⟩ : ByteArray)]) []) (
       .node (m.kind == 104) (
        .leaf (PV.agg [I m.kind, I m.tag, I m.fid, I 0, I m.authFid, I 0, I 0, S (⟨#[]⟩ : ByteArray), S m.user, S m.attach, PV.rf 0 fun i => [], PV.rf 0 fun i => [], I 0, I 0, I 0, I 0, I 0, I 0, S (⟨#[]⟩ : ByteArray), I 0, I 0, S (⟨#[]⟩ : ByteArray), I 0, I 0, I 0, I 0, I 0, I 0, I 0, I 0, I 0, S (⟨#[]⟩ : ByteArray), S (⟨#[]⟩ : ByteArray), S (⟨#[]⟩ : ByteArray), S (⟨#[]⟩ : ByteArray), I 0, I 0, I 0, S (⟨#[]⟩ : ByteArray)]) []) (
        .node (m.kind == 103) (
         .leaf (PV.agg [I m.kind, I m.tag, I 0, I 0, I 0, I 0, I 0, S (⟨#[]⟩ : ByteArray), S (⟨#[]⟩ : ByteArray), S (⟨#[]⟩ : ByteArray), PV.rf 0 fun i => [], PV.rf 0 fun i => [], I m.qid.ty, I m.qid.vers, I m.qid.path, I 0, I 0, I 0, S (⟨#[]⟩ : ByteArray), I 0, I 0, S (⟨#[]⟩ : ByteArray), I 0, I 0, I 0, I 0, I 0, I 0, I 0, I 0, I 0, S (⟨#[]⟩ : ByteArray), S (⟨#[]⟩ : ByteArray), S (⟨#[]⟩ : ByteArray), S (⟨#[]⟩ : ByteArray), I 0, I 0, I 0, S (⟨#[]⟩ : ByteArray)]) []) (
         .node (m.kind == 105) (
          .leaf (PV.agg [I m.kind, I m.tag, I 0, I 0, I 0, I 0, I 0, S (⟨#[]⟩ : ByteArray), S (⟨#[]⟩ : ByteArray), S (⟨#[]⟩ : ByteArray), PV.rf 0 fun i => [], PV.rf 0 fun i => [], I m.qid.ty, I m.qid.vers, I m.qid.path, I 0, I 0, I 0, S (⟨#[]⟩ : ByteArray), I 0, I 0, S (⟨#[]⟩ : ByteArray), I 0, I 0, I 0, I 0, I 0, I 0, I 0, I 0, I 0, S (⟨#[]⟩ : ByteArray), S (⟨#[]⟩ : ByteArray), S (⟨#[]⟩ : ByteArray), S (⟨#[]⟩ : ByteArray), I 0, I 0, I 0, S (⟨#[]⟩ : ByteArray)]) []) (
          .node (m.kind == 107) (
           .leaf (PV.agg [I m.kind, I m.tag, I 0, I 0, I 0, I 0, I 0, S (⟨#[]⟩ : ByteArray), S (⟨#[]⟩ : ByteArray), S (⟨#[]⟩ : ByteArray), PV.rf 0 fun i => [], PV.rf 0 fun i => [], I 0, I 0, I 0, I 0, I 0, I 0, S (⟨#[]⟩ : ByteArray), I 0, I 0, S (⟨#[]⟩ : ByteArray), I 0, I 0, I 0, I 0, I 0, I 0, I 0, I 0, I 0, S (⟨#[]⟩ : ByteArray), S (⟨#[]⟩ : ByteArray), S (⟨#[]⟩ : ByteArray), S (⟨#[]⟩ : ByteArray), I m.err, I 0, I 0, S (⟨#[]⟩ : ByteArray)]) []) (
           .node (m.kind == 108) (
            .leaf (PV.agg [I m.kind, I m.tag, I 0, I 0, I 0, I m.oldTag, I 0, S (⟨#[]⟩ : ByteArray), S (⟨#[]⟩ : ByteArray), S (⟨#[]⟩ : ByteArray), PV.rf 0 fun i => [], PV.rf 0 fun i => [], I 0, I 0, I 0, I 0, I 0, I 0, S (⟨#[]⟩ : ByteArray), I 0, I 0, S (⟨#[]⟩ : ByteArray), I 0, I 0, I 0, I 0, I 0, I 0, I 0, I 0, I 0, S (⟨#[]⟩ : ByteArray), S (⟨#[]⟩ : ByteArray), S (⟨#[]⟩ : ByteArray), S (⟨#[]⟩ : ByteArray), I 0, I 0, I 0, S (⟨#[]⟩ : ByteArray)]) []) (
            .node (m.kind == 110) (
             .leaf (PV.agg [I m.kind, I m.tag, I m.fid, I m.newFid, I 0, I 0, I 0, S (⟨#[]⟩ : ByteArray), S (⟨#[]⟩ : ByteArray), S (⟨#[]⟩ : ByteArray), strF m.names, PV.rf 0 fun i => [], I 0, I 0, I 0, I 0, I 0, I 0, S (⟨#[]⟩ : ByteArray), I 0, I 0, S (⟨#[]⟩ : ByteArray), I 0, I 0, I 0, I 0, I 0, I 0, I 0, I 0, I 0, S (⟨#[]⟩ : ByteArray), S (⟨#[]⟩ : ByteArray), S (⟨#[]⟩ : ByteArray), S (⟨#[]⟩ : ByteArray), I 0, I 0, I 0, S (⟨#[]⟩ : ByteArray)]) []) (
             .node (m.kind == 111) (
              .leaf (PV.agg [I m.kind, I m.tag, I 0, I 0, I 0, I 0, I 0, S (⟨#[]⟩ : ByteArray), S (⟨#[]⟩ : ByteArray), S (⟨#[]⟩ : ByteArray), PV.rf 0 fun i => [], qidF m.qids, I 0, I 0, I 0, I 0, I 0, I 0, S (⟨#[]⟩ : ByteArray), I 0, I 0, S (⟨#[]⟩ : ByteArray), I 0, I 0, I 0, I 0, I 0, I 0, I 0, I 0, I 0, S (⟨#[]⟩ : ByteArray), S (⟨#[]⟩ : ByteArray), S (⟨#[]⟩ : ByteArray), S (⟨#[]⟩ : ByteArray), I 0, I 0, I 0, S (⟨#[]⟩ : ByteArray)]) []) (
              .node (m.kind == 112) (
               .leaf (PV.agg [I m.kind, I m.tag, I m.fid, I 0, I 0, I 0, I 0, S (⟨#[]⟩ : ByteArray), S (⟨#[]⟩ : ByteArray), S (⟨#[]⟩ : ByteArray), PV.rf 0 fun i => [], PV.rf 0 fun i => [], I 0, I 0, I 0, I 0, I m.mode, I 0, S (⟨#[]⟩ : ByteArray), I 0, I 0, S (⟨#[]⟩ : ByteArray), I 0, I 0, I 0, I 0, I 0, I 0, I 0, I 0, I 0, S (⟨#[]⟩ : ByteArray), S (⟨#[]⟩ : ByteArray), S (⟨#[]⟩ : ByteArray), S (⟨#[]⟩ : ByteArray), I 0, I 0, I 0, S (⟨#[]⟩ : ByteArray)]) []) (
               .node (m.kind == 113) (
                .leaf (PV.agg [I m.kind, I m.tag, I 0, I 0, I 0, I 0, I 0, S (⟨#[]⟩ : ByteArray), S (⟨#[]⟩ : ByteArray), S (⟨#[]⟩ : ByteArray), PV.rf 0 fun i => [], PV.rf 0 fun i => [], I m.qid.ty, I m.qid.vers, I m.qid.path, I m.iounit, I 0, I 0, S (⟨#[]⟩ : ByteArray), I 0, I 0, S (⟨#[]⟩ : ByteArray), I 0, I 0, I 0, I 0, I 0, I 0, I 0, I 0, I 0, S (⟨#[]⟩ : ByteArray), S (⟨#[]⟩ : ByteArray), S (⟨#[]⟩ : ByteArray), S (⟨#[]⟩ : ByteArray), I 0, I 0, I 0, S (⟨#[]⟩ : ByteArray)]) []) (
                .node (m.kind == 115) (
                 .leaf (PV.agg [I m.kind, I m.tag, I 0, I 0, I 0, I 0, I 0, S (⟨#[]⟩ : ByteArray), S (⟨#[]⟩ : ByteArray), S (⟨#[]⟩ : ByteArray), PV.rf 0 fun i => [], PV.rf 0 fun i => [], I m.qid.ty, I m.qid.vers, I m.qid.path, I m.iounit, I 0, I 0, S (⟨#[]⟩ : ByteArray), I 0, I 0, S (⟨#[]⟩ : ByteArray), I 0, I 0, I 0, I 0, I 0, I 0, I 0, I 0, I 0, S (⟨#[]⟩ : ByteArray), S (⟨#[]⟩ : ByteArray), S (⟨#[]⟩ : ByteArray), S (⟨#[]⟩ : ByteArray), I 0, I 0, I 0, S (⟨#[]⟩ : ByteArray)]) []) (
                 .node (m.kind == 114) (
                  .leaf (PV.agg [I m.kind, I m.tag, I m.fid, I 0, I 0, I 0, I 0, S (⟨#[]⟩ : ByteArray), S (⟨#[]⟩ : ByteArray), S (⟨#[]⟩ : ByteArray), PV.rf 0 fun i => [], PV.rf 0 fun i => [], I 0, I 0, I 0, I 0, I m.mode, I m.perm, S m.name, I 0, I 0, S (⟨#[]⟩ : ByteArray), I 0, I 0, I 0, I 0, I 0, I 0, I 0, I 0, I 0, S (⟨#[]⟩ : ByteArray), S (⟨#[]⟩ : ByteArray), S (⟨#[]⟩ : ByteArray), S (⟨#[]⟩ : ByteArray), I 0, I 0, I 0, S (⟨#[]⟩ : ByteArray)]) []) (
                  .leaf (PV.agg (restS m { kind := m.kind, tag := m.tag, fid := 0, newFid := 0, authFid := 0, oldTag := 0, msize := 0, version := (⟨#[]⟩ : ByteArray), user := (⟨#[]⟩ : ByteArray), attach := (⟨#[]⟩ : ByteArray), names := { n := 0, f := fun i => strOf [] }, qids := { n := 0, f := fun i => qidOf [] }, qid := { ty := 0, vers := 0, path := 0 }, iounit := 0, mode := 0, perm := 0, name := (⟨#[]⟩ : ByteArray), offset := 0, count := 0, data := (⟨#[]⟩ : ByteArray), stat := { ty := 0, dev := 0, qid := { ty := 0, vers := 0, path := 0 }, mode := 0, atime := 0, mtime := 0, len := 0, name := (⟨#[]⟩ : ByteArray), uid := (⟨#[]⟩ : ByteArray), gid := (⟨#[]⟩ : ByteArray), muid := (⟨#[]⟩ : ByteArray) }, err := 0, lease := 0, term := 0, session := (⟨#[]⟩ : ByteArray) }).cells) [allN m.names.n fun i => isStr [S (m.names.f i)], allN m.qids.n fun i => isQid (m.qids.f i).cells, true = true, true = true])))))))))))))))) (by kernel_rfl) ?_
  simp only [Tr.All, AllP, beq_iff_eq, beq_eq_false_iff_ne]
  repeat' with_reducible first | intro _ | refine And.intro ?_ ?_
  all_goals first | trivial | omega | exact allN_iff.2 fun _ _ => rfl | (unfold onlyS <;> simp only [*, ↓reduceIte, Int.reduceEq, or_true, or_false] <;> first | exact RLe.of_eq rfl | exact lists0 rfl rfl | exact lists1 rfl | exact lists2 rfl)
end Go.Proofs.Ytnkmcmflfedmkaa
