/- Contracts of chapter 8: fields. -/
import Derived.Test.YtnkmcmflfedmkaaM10
namespace Go.Proofs.Ytnkmcmflfedmkaa
open Go.PS

def nameE (s : ByteArray) : Int := if validS s then 0 else 6
def fieldsE (m : Msg) : Int :=
  if m.kind = 100 ∨ m.kind = 101 then firstNz [inE m.msize 0 4294967295, shortE m.version 64, shortE m.session 64] else if m.kind = 102 then firstNz [inE m.authFid 0 4294967294, shortE m.user 32, shortE m.attach 1024] else
  if m.kind = 104 then firstNz [inE m.fid 0 4294967294, inE m.authFid 0 4294967295, shortE m.user 32, shortE m.attach 1024] else if m.kind = 103 ∨ m.kind = 105 ∨ m.kind = 113 ∨ m.kind = 115 then firstNz [qidE m.qid, inE m.iounit 0 8192] else
  if m.kind = 107 then inE m.err 1 59 else if m.kind = 108 then inE m.oldTag 0 65534 else if m.kind = 110 then firstNz [inE m.fid 0 4294967294, inE m.newFid 0 4294967294, namesE m.names.list] else if m.kind = 111 then qidsE m.qids.list else
  if m.kind = 112 then firstNz [inE m.fid 0 4294967294, inE m.mode 0 255] else if m.kind = 114 then firstNz [inE m.fid 0 4294967294, nameE m.name, inE m.perm 0 4294967295, inE m.mode 0 255] else
  if m.kind = 117 ∨ m.kind = 119 ∨ m.kind = 116 ∨ m.kind = 118 then firstNz [inE m.fid 0 4294967294, inE m.offset 0 9007199254740991, inE m.count 0 8192, shortE m.data 8168] else if m.kind = 125 ∨ m.kind = 126 then firstNz [inE m.fid 0 4294967294, dirE m.stat] else
  if m.kind = 128 ∨ m.kind = 129 then firstNz [inE m.fid 0 4294967294, qidE m.qid, inE m.lease 0 2, inE m.term 0 1048576] else if m.kind = 130 then shortE m.session 64 else inE m.fid 0 4294967294

/-- A message as an argument can be: its numbers are ints, its lists and texts are not too long. -/
structure MsgW (m : Msg) : Prop where
  q : InR m.qid.ty
  sq : InR m.stat.qid.ty
  sm : InR m.stat.mode
  qs : ∀ i, i < m.qids.n → InR (m.qids.f i).ty
  nn : m.names.n ≤ 9223372036854775807
  qn : m.qids.n ≤ 9223372036854775807
  ns : ∀ i, i < m.names.n → (m.names.f i).size ≤ 9223372036854775807
  nm : m.name.size ≤ 9223372036854775807
  sn : m.stat.name.size ≤ 9223372036854775807

theorem fields_ok (m : Msg) (hm : MsgW m) : Ok P 31 [.agg m.cells] (I (fieldsE m)) := by
  refine fn_tr Eh_ok L0 Try.func31 ((.node (m.kind == 100) (
     .leaf (I
    (firstNz
      [match [[PV.sc (Value.int IntKind.i64 (inE m.msize 0 4294967295))], [PV.sc (Value.int IntKind.i64 (shortE m.version 64))], [PV.sc (Value.int IntKind.i64 (shortE m.session 64))]].getD 0 [] with
        | [PV.sc (Value.int IntKind.i64 n)] => n
        | x => 0,
        match [[PV.sc (Value.int IntKind.i64 (inE m.msize 0 4294967295))], [PV.sc (Value.int IntKind.i64 (shortE m.version 64))], [PV.sc (Value.int IntKind.i64 (shortE m.session 64))]].getD 1 [] with
        | [PV.sc (Value.int IntKind.i64 n)] => n
        | x => 0,
        match [[PV.sc (Value.int IntKind.i64 (inE m.msize 0 4294967295))], [PV.sc (Value.int IntKind.i64 (shortE m.version 64))], [PV.sc (Value.int IntKind.i64 (shortE m.session 64))]].getD 2 [] with
        | [PV.sc (Value.int IntKind.i64 n)] => n
        | x => 0])) [true = true, 3 ≤ 9223372036854775807]) (
     .node (m.kind == 101) (
      .leaf (I
    (firstNz
      [match [[PV.sc (Value.int IntKind.i64 (inE m.msize 0 4294967295))], [PV.sc (Value.int IntKind.i64 (shortE m.version 64))], [PV.sc (Value.int IntKind.i64 (shortE m.session 64))]].getD 0 [] with
        | [PV.sc (Value.int IntKind.i64 n)] => n
        | x => 0,
        match [[PV.sc (Value.int IntKind.i64 (inE m.msize 0 4294967295))], [PV.sc (Value.int IntKind.i64 (shortE m.version 64))], [PV.sc (Value.int IntKind.i64 (shortE m.session 64))]].getD 1 [] with
        | [PV.sc (Value.int IntKind.i64 n)] => n
        | x => 0,
        match [[PV.sc (Value.int IntKind.i64 (inE m.msize 0 4294967295))], [PV.sc (Value.int IntKind.i64 (shortE m.version 64))], [PV.sc (Value.int IntKind.i64 (shortE m.session 64))]].getD 2 [] with
        | [PV.sc (Value.int IntKind.i64 n)] => n
        | x => 0])) [true = true, 3 ≤ 9223372036854775807]) (
      .node (m.kind == 102) (
       .leaf (I
    (firstNz
      [match [[PV.sc (Value.int IntKind.i64 (inE m.authFid 0 4294967294))], [PV.sc (Value.int IntKind.i64 (shortE m.user 32))], [PV.sc (Value.int IntKind.i64 (shortE m.attach 1024))]].getD 0 [] with
        | [PV.sc (Value.int IntKind.i64 n)] => n
        | x => 0,
        match [[PV.sc (Value.int IntKind.i64 (inE m.authFid 0 4294967294))], [PV.sc (Value.int IntKind.i64 (shortE m.user 32))], [PV.sc (Value.int IntKind.i64 (shortE m.attach 1024))]].getD 1 [] with
        | [PV.sc (Value.int IntKind.i64 n)] => n
        | x => 0,
        match [[PV.sc (Value.int IntKind.i64 (inE m.authFid 0 4294967294))], [PV.sc (Value.int IntKind.i64 (shortE m.user 32))], [PV.sc (Value.int IntKind.i64 (shortE m.attach 1024))]].getD 2 [] with
        | [PV.sc (Value.int IntKind.i64 n)] => n
        | x => 0])) [true = true, 3 ≤ 9223372036854775807]) (
       .node (m.kind == 104) (
        .leaf (I
    (firstNz
      [match [[PV.sc (Value.int IntKind.i64 (inE m.fid 0 4294967294))], [PV.sc (Value.int IntKind.i64 (inE m.authFid 0 4294967295))], [PV.sc (Value.int IntKind.i64 (shortE m.user 32))], [PV.sc (Value.int IntKind.i64 (shortE m.attach 1024))]].getD 0 [] with
        | [PV.sc (Value.int IntKind.i64 n)] => n
        | x => 0,
        match [[PV.sc (Value.int IntKind.i64 (inE m.fid 0 4294967294))], [PV.sc (Value.int IntKind.i64 (inE m.authFid 0 4294967295))], [PV.sc (Value.int IntKind.i64 (shortE m.user 32))], [PV.sc (Value.int IntKind.i64 (shortE m.attach 1024))]].getD 1 [] with
        | [PV.sc (Value.int IntKind.i64 n)] => n
        | x => 0,
        match [[PV.sc (Value.int IntKind.i64 (inE m.fid 0 4294967294))], [PV.sc (Value.int IntKind.i64 (inE m.authFid 0 4294967295))], [PV.sc (Value.int IntKind.i64 (shortE m.user 32))], [PV.sc (Value.int IntKind.i64 (shortE m.attach 1024))]].getD 2 [] with
        | [PV.sc (Value.int IntKind.i64 n)] => n
        | x => 0,
        match [[PV.sc (Value.int IntKind.i64 (inE m.fid 0 4294967294))], [PV.sc (Value.int IntKind.i64 (inE m.authFid 0 4294967295))], [PV.sc (Value.int IntKind.i64 (shortE m.user 32))], [PV.sc (Value.int IntKind.i64 (shortE m.attach 1024))]].getD 3 [] with
        | [PV.sc (Value.int IntKind.i64 n)] => n
        | x => 0])) [true = true, 4 ≤ 9223372036854775807]) (
        .node (m.kind == 103) (
         .leaf (I
    (firstNz
      [match [[PV.sc (Value.int IntKind.i64 (qidE m.qid))], [PV.sc (Value.int IntKind.i64 (inE m.iounit 0 8192))]].getD 0 [] with
        | [PV.sc (Value.int IntKind.i64 n)] => n
        | x => 0,
        match [[PV.sc (Value.int IntKind.i64 (qidE m.qid))], [PV.sc (Value.int IntKind.i64 (inE m.iounit 0 8192))]].getD 1 [] with
        | [PV.sc (Value.int IntKind.i64 n)] => n
        | x => 0])) [InR m.qid.ty, true = true, 2 ≤ 9223372036854775807]) (
         .node (m.kind == 105) (
          .leaf (I
    (firstNz
      [match [[PV.sc (Value.int IntKind.i64 (qidE m.qid))], [PV.sc (Value.int IntKind.i64 (inE m.iounit 0 8192))]].getD 0 [] with
        | [PV.sc (Value.int IntKind.i64 n)] => n
        | x => 0,
        match [[PV.sc (Value.int IntKind.i64 (qidE m.qid))], [PV.sc (Value.int IntKind.i64 (inE m.iounit 0 8192))]].getD 1 [] with
        | [PV.sc (Value.int IntKind.i64 n)] => n
        | x => 0])) [InR m.qid.ty, true = true, 2 ≤ 9223372036854775807]) (
          .node (m.kind == 113) (
           .leaf (I
    (firstNz
      [match [[PV.sc (Value.int IntKind.i64 (qidE m.qid))], [PV.sc (Value.int IntKind.i64 (inE m.iounit 0 8192))]].getD 0 [] with
        | [PV.sc (Value.int IntKind.i64 n)] => n
        | x => 0,
        match [[PV.sc (Value.int IntKind.i64 (qidE m.qid))], [PV.sc (Value.int IntKind.i64 (inE m.iounit 0 8192))]].getD 1 [] with
        | [PV.sc (Value.int IntKind.i64 n)] => n
        | x => 0])) [InR m.qid.ty, true = true, 2 ≤ 9223372036854775807]) (
           .node (m.kind == 115) (
            .leaf (I
    (firstNz
      [match [[PV.sc (Value.int IntKind.i64 (qidE m.qid))], [PV.sc (Value.int IntKind.i64 (inE m.iounit 0 8192))]].getD 0 [] with
        | [PV.sc (Value.int IntKind.i64 n)] => n
        | x => 0,
        match [[PV.sc (Value.int IntKind.i64 (qidE m.qid))], [PV.sc (Value.int IntKind.i64 (inE m.iounit 0 8192))]].getD 1 [] with
        | [PV.sc (Value.int IntKind.i64 n)] => n
        | x => 0])) [InR m.qid.ty, true = true, 2 ≤ 9223372036854775807]) (
            .node (m.kind == 107) (
             .leaf (I (inE m.err 1 59)) []) (
             .node (m.kind == 108) (
              .leaf (I (inE m.oldTag 0 65534)) []) (
              .node (m.kind == 110) (
               .leaf (I
    (firstNz
      [match [[PV.sc (Value.int IntKind.i64 (inE m.fid 0 4294967294))], [PV.sc (Value.int IntKind.i64 (inE m.newFid 0 4294967294))], [PV.sc (Value.int IntKind.i64 (namesE (ofN m.names.n fun i => m.names.f i)))]].getD 0 [] with
        | [PV.sc (Value.int IntKind.i64 n)] => n
        | x => 0,
        match [[PV.sc (Value.int IntKind.i64 (inE m.fid 0 4294967294))], [PV.sc (Value.int IntKind.i64 (inE m.newFid 0 4294967294))], [PV.sc (Value.int IntKind.i64 (namesE (ofN m.names.n fun i => m.names.f i)))]].getD 1 [] with
        | [PV.sc (Value.int IntKind.i64 n)] => n
        | x => 0,
        match [[PV.sc (Value.int IntKind.i64 (inE m.fid 0 4294967294))], [PV.sc (Value.int IntKind.i64 (inE m.newFid 0 4294967294))], [PV.sc (Value.int IntKind.i64 (namesE (ofN m.names.n fun i => m.names.f i)))]].getD 2 [] with
        | [PV.sc (Value.int IntKind.i64 n)] => n
        | x => 0])) [allN m.names.n fun i => isStr [S (m.names.f i)], true = true, 3 ≤ 9223372036854775807]) (
               .node (m.kind == 111) (
                .leaf (I (qidsE (ofN m.qids.n fun i => qidOf (m.qids.f i).cells))) [allN m.qids.n fun i => isQid (m.qids.f i).cells, ∀ (i : Nat), i < m.qids.n → InR (qidOf (m.qids.f i).cells).ty]) (
                .node (m.kind == 112) (
                 .leaf (I
    (firstNz
      [match [[PV.sc (Value.int IntKind.i64 (inE m.fid 0 4294967294))], [PV.sc (Value.int IntKind.i64 (inE m.mode 0 255))]].getD 0 [] with
        | [PV.sc (Value.int IntKind.i64 n)] => n
        | x => 0,
        match [[PV.sc (Value.int IntKind.i64 (inE m.fid 0 4294967294))], [PV.sc (Value.int IntKind.i64 (inE m.mode 0 255))]].getD 1 [] with
        | [PV.sc (Value.int IntKind.i64 n)] => n
        | x => 0])) [true = true, 2 ≤ 9223372036854775807]) (
                 .node (m.kind == 114) (
                  .leaf (I
    (firstNz
      [match [[PV.sc (Value.int IntKind.i64 (inE m.fid 0 4294967294))], [PV.sc (Value.int IntKind.i64 (if validS m.name = true then 0 else 6))], [PV.sc (Value.int IntKind.i64 (inE m.perm 0 4294967295))], [PV.sc (Value.int IntKind.i64 (inE m.mode 0 255))]].getD 0 [] with
        | [PV.sc (Value.int IntKind.i64 n)] => n
        | x => 0,
        match [[PV.sc (Value.int IntKind.i64 (inE m.fid 0 4294967294))], [PV.sc (Value.int IntKind.i64 (if validS m.name = true then 0 else 6))], [PV.sc (Value.int IntKind.i64 (inE m.perm 0 4294967295))], [PV.sc (Value.int IntKind.i64 (inE m.mode 0 255))]].getD 1 [] with
        | [PV.sc (Value.int IntKind.i64 n)] => n
        | x => 0,
        match [[PV.sc (Value.int IntKind.i64 (inE m.fid 0 4294967294))], [PV.sc (Value.int IntKind.i64 (if validS m.name = true then 0 else 6))], [PV.sc (Value.int IntKind.i64 (inE m.perm 0 4294967295))], [PV.sc (Value.int IntKind.i64 (inE m.mode 0 255))]].getD 2 [] with
        | [PV.sc (Value.int IntKind.i64 n)] => n
        | x => 0,
        match [[PV.sc (Value.int IntKind.i64 (inE m.fid 0 4294967294))], [PV.sc (Value.int IntKind.i64 (if validS m.name = true then 0 else 6))], [PV.sc (Value.int IntKind.i64 (inE m.perm 0 4294967295))], [PV.sc (Value.int IntKind.i64 (inE m.mode 0 255))]].getD 3 [] with
        | [PV.sc (Value.int IntKind.i64 n)] => n
        | x => 0])) [true = true, 4 ≤ 9223372036854775807]) (
                  .node (m.kind == 117) (
                   .leaf (I
    (firstNz
      [match [[PV.sc (Value.int IntKind.i64 (inE m.fid 0 4294967294))], [PV.sc (Value.int IntKind.i64 (inE m.offset 0 9007199254740991))], [PV.sc (Value.int IntKind.i64 (inE m.count 0 8192))], [PV.sc (Value.int IntKind.i64 (shortE m.data 8168))]].getD 0 [] with
        | [PV.sc (Value.int IntKind.i64 n)] => n
        | x => 0,
        match [[PV.sc (Value.int IntKind.i64 (inE m.fid 0 4294967294))], [PV.sc (Value.int IntKind.i64 (inE m.offset 0 9007199254740991))], [PV.sc (Value.int IntKind.i64 (inE m.count 0 8192))], [PV.sc (Value.int IntKind.i64 (shortE m.data 8168))]].getD 1 [] with
        | [PV.sc (Value.int IntKind.i64 n)] => n
        | x => 0,
        match [[PV.sc (Value.int IntKind.i64 (inE m.fid 0 4294967294))], [PV.sc (Value.int IntKind.i64 (inE m.offset 0 9007199254740991))], [PV.sc (Value.int IntKind.i64 (inE m.count 0 8192))], [PV.sc (Value.int IntKind.i64 (shortE m.data 8168))]].getD 2 [] with
        | [PV.sc (Value.int IntKind.i64 n)] => n
        | x => 0,
        match [[PV.sc (Value.int IntKind.i64 (inE m.fid 0 4294967294))], [PV.sc (Value.int IntKind.i64 (inE m.offset 0 9007199254740991))], [PV.sc (Value.int IntKind.i64 (inE m.count 0 8192))], [PV.sc (Value.int IntKind.i64 (shortE m.data 8168))]].getD 3 [] with
        | [PV.sc (Value.int IntKind.i64 n)] => n
        | x => 0])) [true = true, 4 ≤ 9223372036854775807]) (
                   .node (m.kind == 119) (
                    .leaf (I
    (firstNz
      [match [[PV.sc (Value.int IntKind.i64 (inE m.fid 0 4294967294))], [PV.sc (Value.int IntKind.i64 (inE m.offset 0 9007199254740991))], [PV.sc (Value.int IntKind.i64 (inE m.count 0 8192))], [PV.sc (Value.int IntKind.i64 (shortE m.data 8168))]].getD 0 [] with
        | [PV.sc (Value.int IntKind.i64 n)] => n
        | x => 0,
        match [[PV.sc (Value.int IntKind.i64 (inE m.fid 0 4294967294))], [PV.sc (Value.int IntKind.i64 (inE m.offset 0 9007199254740991))], [PV.sc (Value.int IntKind.i64 (inE m.count 0 8192))], [PV.sc (Value.int IntKind.i64 (shortE m.data 8168))]].getD 1 [] with
        | [PV.sc (Value.int IntKind.i64 n)] => n
        | x => 0,
        match [[PV.sc (Value.int IntKind.i64 (inE m.fid 0 4294967294))], [PV.sc (Value.int IntKind.i64 (inE m.offset 0 9007199254740991))], [PV.sc (Value.int IntKind.i64 (inE m.count 0 8192))], [PV.sc (Value.int IntKind.i64 (shortE m.data 8168))]].getD 2 [] with
        | [PV.sc (Value.int IntKind.i64 n)] => n
        | x => 0,
        match [[PV.sc (Value.int IntKind.i64 (inE m.fid 0 4294967294))], [PV.sc (Value.int IntKind.i64 (inE m.offset 0 9007199254740991))], [PV.sc (Value.int IntKind.i64 (inE m.count 0 8192))], [PV.sc (Value.int IntKind.i64 (shortE m.data 8168))]].getD 3 [] with
        | [PV.sc (Value.int IntKind.i64 n)] => n
        | x => 0])) [true = true, 4 ≤ 9223372036854775807]) (
                    .node (m.kind == 116) (
                     .leaf (I
    (firstNz
      [match [[PV.sc (Value.int IntKind.i64 (inE m.fid 0 4294967294))], [PV.sc (Value.int IntKind.i64 (inE m.offset 0 9007199254740991))], [PV.sc (Value.int IntKind.i64 (inE m.count 0 8192))], [PV.sc (Value.int IntKind.i64 (shortE m.data 8168))]].getD 0 [] with
        | [PV.sc (Value.int IntKind.i64 n)] => n
        | x => 0,
        match [[PV.sc (Value.int IntKind.i64 (inE m.fid 0 4294967294))], [PV.sc (Value.int IntKind.i64 (inE m.offset 0 9007199254740991))], [PV.sc (Value.int IntKind.i64 (inE m.count 0 8192))], [PV.sc (Value.int IntKind.i64 (shortE m.data 8168))]].getD 1 [] with
        | [PV.sc (Value.int IntKind.i64 n)] => n
        | x => 0,
        match [[PV.sc (Value.int IntKind.i64 (inE m.fid 0 4294967294))], [PV.sc (Value.int IntKind.i64 (inE m.offset 0 9007199254740991))], [PV.sc (Value.int IntKind.i64 (inE m.count 0 8192))], [PV.sc (Value.int IntKind.i64 (shortE m.data 8168))]].getD 2 [] with
        | [PV.sc (Value.int IntKind.i64 n)] => n
        | x => 0,
        match [[PV.sc (Value.int IntKind.i64 (inE m.fid 0 4294967294))], [PV.sc (Value.int IntKind.i64 (inE m.offset 0 9007199254740991))], [PV.sc (Value.int IntKind.i64 (inE m.count 0 8192))], [PV.sc (Value.int IntKind.i64 (shortE m.data 8168))]].getD 3 [] with
        | [PV.sc (Value.int IntKind.i64 n)] => n
        | x => 0])) [true = true, 4 ≤ 9223372036854775807]) (
                     .node (m.kind == 118) (
                      .leaf (I
    (firstNz
      [match [[PV.sc (Value.int IntKind.i64 (inE m.fid 0 4294967294))], [PV.sc (Value.int IntKind.i64 (inE m.offset 0 9007199254740991))], [PV.sc (Value.int IntKind.i64 (inE m.count 0 8192))], [PV.sc (Value.int IntKind.i64 (shortE m.data 8168))]].getD 0 [] with
        | [PV.sc (Value.int IntKind.i64 n)] => n
        | x => 0,
        match [[PV.sc (Value.int IntKind.i64 (inE m.fid 0 4294967294))], [PV.sc (Value.int IntKind.i64 (inE m.offset 0 9007199254740991))], [PV.sc (Value.int IntKind.i64 (inE m.count 0 8192))], [PV.sc (Value.int IntKind.i64 (shortE m.data 8168))]].getD 1 [] with
        | [PV.sc (Value.int IntKind.i64 n)] => n
        | x => 0,
        match [[PV.sc (Value.int IntKind.i64 (inE m.fid 0 4294967294))], [PV.sc (Value.int IntKind.i64 (inE m.offset 0 9007199254740991))], [PV.sc (Value.int IntKind.i64 (inE m.count 0 8192))], [PV.sc (Value.int IntKind.i64 (shortE m.data 8168))]].getD 2 [] with
        | [PV.sc (Value.int IntKind.i64 n)] => n
        | x => 0,
        match [[PV.sc (Value.int IntKind.i64 (inE m.fid 0 4294967294))], [PV.sc (Value.int IntKind.i64 (inE m.offset 0 9007199254740991))], [PV.sc (Value.int IntKind.i64 (inE m.count 0 8192))], [PV.sc (Value.int IntKind.i64 (shortE m.data 8168))]].getD 3 [] with
        | [PV.sc (Value.int IntKind.i64 n)] => n
        | x => 0])) [true = true, 4 ≤ 9223372036854775807]) (
                      .node (m.kind == 125) (
                       .leaf (I
    (firstNz
      [match [[PV.sc (Value.int IntKind.i64 (inE m.fid 0 4294967294))], [PV.sc (Value.int IntKind.i64 (dirE m.stat))]].getD 0 [] with
        | [PV.sc (Value.int IntKind.i64 n)] => n
        | x => 0,
        match [[PV.sc (Value.int IntKind.i64 (inE m.fid 0 4294967294))], [PV.sc (Value.int IntKind.i64 (dirE m.stat))]].getD 1 [] with
        | [PV.sc (Value.int IntKind.i64 n)] => n
        | x => 0])) [InR m.stat.qid.ty, InR m.stat.mode, true = true, 2 ≤ 9223372036854775807]) (
                       .node (m.kind == 126) (
                        .leaf (I
    (firstNz
      [match [[PV.sc (Value.int IntKind.i64 (inE m.fid 0 4294967294))], [PV.sc (Value.int IntKind.i64 (dirE m.stat))]].getD 0 [] with
        | [PV.sc (Value.int IntKind.i64 n)] => n
        | x => 0,
        match [[PV.sc (Value.int IntKind.i64 (inE m.fid 0 4294967294))], [PV.sc (Value.int IntKind.i64 (dirE m.stat))]].getD 1 [] with
        | [PV.sc (Value.int IntKind.i64 n)] => n
        | x => 0])) [InR m.stat.qid.ty, InR m.stat.mode, true = true, 2 ≤ 9223372036854775807]) (
                        .node (m.kind == 128) (
                         .leaf (I
    (firstNz
      [match [[PV.sc (Value.int IntKind.i64 (inE m.fid 0 4294967294))], [PV.sc (Value.int IntKind.i64 (qidE m.qid))], [PV.sc (Value.int IntKind.i64 (inE m.lease 0 2))], [PV.sc (Value.int IntKind.i64 (inE m.term 0 1048576))]].getD 0 [] with
        | [PV.sc (Value.int IntKind.i64 n)] => n
        | x => 0,
        match [[PV.sc (Value.int IntKind.i64 (inE m.fid 0 4294967294))], [PV.sc (Value.int IntKind.i64 (qidE m.qid))], [PV.sc (Value.int IntKind.i64 (inE m.lease 0 2))], [PV.sc (Value.int IntKind.i64 (inE m.term 0 1048576))]].getD 1 [] with
        | [PV.sc (Value.int IntKind.i64 n)] => n
        | x => 0,
        match [[PV.sc (Value.int IntKind.i64 (inE m.fid 0 4294967294))], [PV.sc (Value.int IntKind.i64 (qidE m.qid))], [PV.sc (Value.int IntKind.i64 (inE m.lease 0 2))], [PV.sc (Value.int IntKind.i64 (inE m.term 0 1048576))]].getD 2 [] with
        | [PV.sc (Value.int IntKind.i64 n)] => n
        | x => 0,
        match [[PV.sc (Value.int IntKind.i64 (inE m.fid 0 4294967294))], [PV.sc (Value.int IntKind.i64 (qidE m.qid))], [PV.sc (Value.int IntKind.i64 (inE m.lease 0 2))], [PV.sc (Value.int IntKind.i64 (inE m.term 0 1048576))]].getD 3 [] with
        | [PV.sc (Value.int IntKind.i64 n)] => n
        | x => 0])) [InR m.qid.ty, true = true, 4 ≤ 9223372036854775807]) (
                         .node (m.kind == 129) (
                          .leaf (I
    (firstNz
      [match [[PV.sc (Value.int IntKind.i64 (inE m.fid 0 4294967294))], [PV.sc (Value.int IntKind.i64 (qidE m.qid))], [PV.sc (Value.int IntKind.i64 (inE m.lease 0 2))], [PV.sc (Value.int IntKind.i64 (inE m.term 0 1048576))]].getD 0 [] with
        | [PV.sc (Value.int IntKind.i64 n)] => n
        | x => 0,
        match [[PV.sc (Value.int IntKind.i64 (inE m.fid 0 4294967294))], [PV.sc (Value.int IntKind.i64 (qidE m.qid))], [PV.sc (Value.int IntKind.i64 (inE m.lease 0 2))], [PV.sc (Value.int IntKind.i64 (inE m.term 0 1048576))]].getD 1 [] with
        | [PV.sc (Value.int IntKind.i64 n)] => n
        | x => 0,
        match [[PV.sc (Value.int IntKind.i64 (inE m.fid 0 4294967294))], [PV.sc (Value.int IntKind.i64 (qidE m.qid))], [PV.sc (Value.int IntKind.i64 (inE m.lease 0 2))], [PV.sc (Value.int IntKind.i64 (inE m.term 0 1048576))]].getD 2 [] with
        | [PV.sc (Value.int IntKind.i64 n)] => n
        | x => 0,
        match [[PV.sc (Value.int IntKind.i64 (inE m.fid 0 4294967294))], [PV.sc (Value.int IntKind.i64 (qidE m.qid))], [PV.sc (Value.int IntKind.i64 (inE m.lease 0 2))], [PV.sc (Value.int IntKind.i64 (inE m.term 0 1048576))]].getD 3 [] with
        | [PV.sc (Value.int IntKind.i64 n)] => n
        | x => 0])) [InR m.qid.ty, true = true, 4 ≤ 9223372036854775807]) (
                          .node (m.kind == 130) (
                           .leaf (I (shortE m.session 64)) []) (
                           .leaf (I (inE m.fid 0 4294967294)) []))))))))))))))))))))))))) (by kernel_rfl) ?_
  have h1 := hm.q
  have h2 := hm.sq
  have h3 := hm.sm
  have h4 := hm.qs
  simp only [Tr.All, AllP, beq_iff_eq, beq_eq_false_iff_ne]
  repeat' with_reducible first | intro _ | refine And.intro ?_ ?_
  all_goals first | trivial | omega | exact allN_iff.2 fun _ _ => rfl | assumption | exact h4 _ (by assumption) | (unfold fieldsE <;> simp only [*, ↓reduceIte, Int.reduceEq, or_true, or_false] <;> rfl)
end Go.Proofs.Ytnkmcmflfedmkaa
