/- Contracts of chapter 8: the reference's Zero and fault. -/
import Derived.Test.YtnkmcmflfedmkaaM17
namespace Go.Proofs.Ytnkmcmflfedmkaa
open Go.PS

def zeroLateS (m : Msg) (c : Int) : Bool :=
  if c = 79 then decide (m.offset = 0) else if c = 99 then decide (m.count = 0) else if c = 100 then decide (m.data = ⟨#[]⟩) else if c = 115 then decide (m.stat = zDir) else if c = 69 then decide (m.err = 0) else
  if c = 108 then decide (m.lease = 0) else if c = 84 then decide (m.term = 0) else decide (m.session = ⟨#[]⟩)
def zeroS (m : Msg) (c : Int) : Bool :=
  if c = 102 then decide (m.fid = 0) else if c = 110 then decide (m.newFid = 0) else if c = 97 then decide (m.authFid = 0) else if c = 111 then decide (m.oldTag = 0) else if c = 122 then decide (m.msize = 0) else
  if c = 118 then decide (m.version = ⟨#[]⟩) else if c = 117 then decide (m.user = ⟨#[]⟩) else if c = 116 then decide (m.attach = ⟨#[]⟩) else if c = 78 then decide (m.names.n = 0) else if c = 81 then decide (m.qids.n = 0) else
  if c = 113 then decide (m.qid = zQid) else if c = 105 then decide (m.iounit = 0) else if c = 109 then decide (m.mode = 0) else if c = 112 then decide (m.perm = 0) else if c = 101 then decide (m.name = ⟨#[]⟩) else zeroLateS m c

theorem zeroLate_ok (m : Msg) (c : Int) : Ok P 50 [.agg m.cells, U8 c] (Bo (zeroLateS m c)) := by
  refine fn_tr Em_ok L0 Try.func50 ((.node (c == 79) (
     .leaf (Bo (m.offset == 0)) []) (
     .node (c == 99) (
      .leaf (Bo (m.count == 0)) []) (
      .node (c == 100) (
       .leaf (Bo (eqS m.data (⟨#[]⟩ : ByteArray))) []) (
       .node (c == 115) (
        .leaf (Bo (m.stat.ty == 0 && (m.stat.dev == 0 && (m.stat.qid.ty == 0 && (m.stat.qid.vers == 0 && (m.stat.qid.path == 0 && true)) && (m.stat.mode == 0 && (m.stat.atime == 0 && (m.stat.mtime == 0 && (m.stat.len == 0 && (eqS m.stat.name (⟨#[]⟩ : ByteArray) && (eqS m.stat.uid (⟨#[]⟩ : ByteArray) && (eqS m.stat.gid (⟨#[]⟩ : ByteArray) && (eqS m.stat.muid (⟨#[]⟩ : ByteArray) && true)))))))))))) []) (
        .node (c == 69) (
         .leaf (Bo (m.err == 0)) []) (
         .node (c == 108) (
          .leaf (Bo (m.lease == 0)) []) (
          .node (c == 84) (
           .leaf (Bo (m.term == 0)) []) (
           .leaf (Bo (eqS m.session (⟨#[]⟩ : ByteArray))) []))))))))) (by kernel_rfl) ?_
  simp only [Tr.All, AllP, beq_iff_eq, beq_eq_false_iff_ne, eqS_decide]
  repeat' with_reducible first | intro _ | refine And.intro ?_ ?_
  all_goals first | trivial | omega | (refine congrArg Bo ?_ <;> simp [zeroLateS, dir_eq, zDir, zQid, *] <;> done) | (refine congrArg Bo ?_ <;> rw [Bool.eq_iff_iff] <;> simp [zeroLateS, dir_eq, zDir, zQid, *])

def d50 : List PV → Option (PV × List Prop)
  | [.agg a, .sc (.int .u8 c)] => match msgOf a with
    | some (m, ob) => some (Bo (zeroLateS m c), ob)
    | none => none
  | _ => none
def En : Env := addE 50 d50 Em
theorem En_ok : EnvOk P En :=
  addE_ok Em_ok
    (fun l r ob h ho => by
      unfold d50 at h
      split at h
      · split at h
        · cases h
          exact (zeroLate_ok _ _).conv2 (msgOf_rep (by assumption) ho) (fun _ _ _ h => h)
        · cases h
      · cases h)

theorem zero_ok (m : Msg) (c : Int) : Ok P 33 [.agg m.cells, U8 c] (Bo (zeroS m c)) := by
  refine fn_tr En_ok L0 Try.func33 ((.node (c == 102) (
     .leaf (Bo (m.fid == 0)) []) (
     .node (c == 110) (
      .leaf (Bo (m.newFid == 0)) []) (
      .node (c == 97) (
       .leaf (Bo (m.authFid == 0)) []) (
       .node (c == 111) (
        .leaf (Bo (m.oldTag == 0)) []) (
        .node (c == 122) (
         .leaf (Bo (m.msize == 0)) []) (
         .node (c == 118) (
          .leaf (Bo (eqS m.version (⟨#[]⟩ : ByteArray))) []) (
          .node (c == 117) (
           .leaf (Bo (eqS m.user (⟨#[]⟩ : ByteArray))) []) (
           .node (c == 116) (
            .leaf (Bo (eqS m.attach (⟨#[]⟩ : ByteArray))) []) (
            .node (c == 78) (
             .leaf (Bo ((↑m.names.n : Int) == 0)) []) (
             .node (c == 81) (
              .leaf (Bo ((↑m.qids.n : Int) == 0)) []) (
              .node (c == 113) (
               .leaf (Bo (m.qid.ty == 0 && (m.qid.vers == 0 && (m.qid.path == 0 && true)))) []) (
               .node (c == 105) (
                .leaf (Bo (m.iounit == 0)) []) (
                .node (c == 109) (
                 .leaf (Bo (m.mode == 0)) []) (
                 .node (c == 112) (
                  .leaf (Bo (m.perm == 0)) []) (
                  .node (c == 101) (
                   .leaf (Bo (eqS m.name (⟨#[]⟩ : ByteArray))) []) (
                   .leaf (Bo (zeroLateS m c)) [allN m.names.n fun i => isStr [S (m.names.f i)], allN m.qids.n fun i => isQid (m.qids.f i).cells]))))))))))))))))) (by kernel_rfl) ?_
  simp only [Tr.All, AllP, beq_iff_eq, beq_eq_false_iff_ne, eqS_decide]
  repeat' with_reducible first | intro _ | refine And.intro ?_ ?_
  all_goals first | trivial | omega | exact allN_iff.2 fun _ _ => rfl | (refine congrArg Bo ?_ <;> simp [zeroS, qid_eq, zQid, *] <;> done) | (refine congrArg Bo ?_ <;> rw [Bool.eq_iff_iff] <;> simp [zeroS, qid_eq, zQid, *] <;> done)

def faultLateS (m : Msg) (c : Int) : Int :=
  if c = 109 then inE m.mode 0 255 else if c = 112 then inE m.perm 0 4294967295 else if c = 101 then nameE m.name else if c = 79 then inE m.offset 0 9007199254740991 else if c = 99 then inE m.count 0 8192 else
  if c = 100 then shortE m.data 8168 else if c = 115 then dirE m.stat else if c = 69 then inE m.err 1 59 else if c = 108 then inE m.lease 0 2 else if c = 84 then inE m.term 0 1048576 else shortE m.session 64
def faultS (m : Msg) (c : Int) : Int :=
  if c = 102 then inE m.fid 0 4294967294 else if c = 110 then inE m.newFid 0 4294967294 else if c = 97 then (if m.kind = 102 then inE m.authFid 0 4294967294 else inE m.authFid 0 4294967295) else if c = 111 then inE m.oldTag 0 65534 else
  if c = 122 then inE m.msize 0 4294967295 else if c = 118 then shortE m.version 64 else if c = 117 then shortE m.user 32 else if c = 116 then shortE m.attach 1024 else if c = 78 then namesE m.names.list else if c = 81 then qidsE m.qids.list else
  if c = 113 then qidE m.qid else if c = 105 then inE m.iounit 0 8192 else faultLateS m c

theorem faultLate_ok (m : Msg) (c : Int) (hm : MsgW m) : Ok P 56 [.agg m.cells, U8 c] (I (faultLateS m c)) := by
  refine fn_tr En_ok L0 Try.func56 ((.node (c == 109) (
     .leaf (I (inE m.mode 0 255)) []) (
     .node (c == 112) (
      .leaf (I (inE m.perm 0 4294967295)) []) (
      .node (c == 101) (
       .node (!validS m.name) (
        .leaf (I 6) [m.name.size ≤ 9223372036854775807]) (
        .leaf (I 0) [m.name.size ≤ 9223372036854775807])) (
       .node (c == 79) (
        .leaf (I (inE m.offset 0 9007199254740991)) []) (
        .node (c == 99) (
         .leaf (I (inE m.count 0 8192)) []) (
         .node (c == 100) (
          .leaf (I (shortE m.data 8168)) []) (
          .node (c == 115) (
           .leaf (I (dirE m.stat)) [InR m.stat.qid.ty, InR m.stat.mode, m.stat.name.size ≤ 9223372036854775807]) (
           .node (c == 69) (
            .node (decide (m.err < 1)) (
             .leaf (I 5) []) (
             .node (decide (m.err > 59)) (
              .leaf (I 5) []) (
              .leaf (I 0) []))) (
            .node (c == 108) (
             .leaf (I (inE m.lease 0 2)) []) (
             .node (c == 84) (
              .leaf (I (inE m.term 0 1048576)) []) (
              .leaf (I (shortE m.session 64)) [])))))))))))) (by kernel_rfl) ?_
  have h1 := hm.sq
  have h2 := hm.sm
  have h3 := hm.nm
  have h4 := hm.sn
  simp only [Tr.All, AllP, decide_eq_true_eq, decide_eq_false_iff_not, beq_iff_eq, beq_eq_false_iff_ne, Bool.not_eq_true', Bool.not_eq_false']
  repeat' with_reducible first | intro _ | refine And.intro ?_ ?_
  all_goals first | trivial | omega | exact allN_iff.2 fun _ _ => rfl | assumption | (refine congrArg I ?_ <;> simp [faultLateS, nameE, inE, *] <;> done) | (refine congrArg I ?_ <;> grind [faultLateS, nameE, inE])

def d56 : List PV → Option (PV × List Prop)
  | [.agg a, .sc (.int .u8 c)] => match msgOf a with
    | some (m, ob) => some (I (faultLateS m c), MsgW m :: ob)
    | none => none
  | _ => none
def Eo : Env := addE 56 d56 En
theorem Eo_ok : EnvOk P Eo :=
  addE_ok En_ok
    (fun l r ob h ho => by
      unfold d56 at h
      split at h
      · split at h
        · cases h
          exact (faultLate_ok _ _ (ho _ List.mem_cons_self)).conv2 (msgOf_rep (by assumption) fun X hX => ho X (List.mem_cons_of_mem _ hX)) (fun _ _ _ h => h)
        · cases h
      · cases h)

theorem fault_ok (m : Msg) (c : Int) (hm : MsgW m) : Ok P 35 [.agg m.cells, U8 c] (I (faultS m c)) := by
  refine fn_tr Eo_ok L0 Try.func35 ((.node (c == 102) (
     .leaf (I (inE m.fid 0 4294967294)) []) (
     .node (c == 110) (
      .leaf (I (inE m.newFid 0 4294967294)) []) (
      .node (c == 97) (
       .node (m.kind == 102) (
        .leaf (I (inE m.authFid 0 4294967294)) []) (
        .leaf (I (inE m.authFid 0 4294967295)) [])) (
       .node (c == 111) (
        .leaf (I (inE m.oldTag 0 65534)) []) (
        .node (c == 122) (
         .leaf (I (inE m.msize 0 4294967295)) []) (
         .node (c == 118) (
          .leaf (I (shortE m.version 64)) []) (
          .node (c == 117) (
           .leaf (I (shortE m.user 32)) []) (
           .node (c == 116) (
            .leaf (I (shortE m.attach 1024)) []) (
            .node (c == 78) (
             .leaf (I (namesE (ofN m.names.n m.names.f))) [allN m.names.n fun i => isStr [S (m.names.f i)], ∀ (i : Nat), i < m.names.n → (m.names.f i).size ≤ 9223372036854775807]) (
             .node (c == 81) (
              .leaf (I (qidsE (ofN m.qids.n m.qids.f))) [allN m.qids.n fun i => isQid (m.qids.f i).cells]) (
              .node (c == 113) (
               .leaf (I (qidE m.qid)) []) (
               .node (c == 105) (
                .leaf (I (inE m.iounit 0 8192)) []) (
                .leaf (I (faultLateS m c)) [MsgW m, allN m.names.n fun i => isStr [S (m.names.f i)], allN m.qids.n fun i => isQid (m.qids.f i).cells])))))))))))))) (by kernel_rfl) ?_
  have h1 := hm.ns
  simp only [Tr.All, AllP, beq_iff_eq, beq_eq_false_iff_ne]
  repeat' with_reducible first | intro _ | refine And.intro ?_ ?_
  all_goals first | trivial | omega | exact allN_iff.2 fun _ _ => rfl | assumption | exact h1 _ (by assumption) | (refine congrArg I ?_ <;> simp [faultS, FL.list, *] <;> done)
end Go.Proofs.Ytnkmcmflfedmkaa
