/- Contracts of chapter 8: the reference's Same, second part. -/
import Derived.Test.YtnkmcmflfedmkaaM13
namespace Go.Proofs.Ytnkmcmflfedmkaa
open Go.PS

theorem list_eq_iff {α : Type} (x y : FL α) (p : Nat → Bool) (hp : ∀ i, p i = false ↔ x.f i = y.f i) (hn : x.n = y.n) : (x.list = y.list) ↔ anyI p x.n 0 = false := by
  have e : anyI p x.n 0 = (List.range x.n).any p := rfl
  rw [e, List.any_eq_false]
  unfold FL.list ofN
  rw [← hn]
  constructor
  · intro h i hi
    have h2 := List.map_inj_left.1 h i hi
    simp [(hp i).2 h2]
  · intro h
    apply List.map_congr_left
    intro i hi
    have := h i hi
    exact (hp i).1 (by simpa using this)

def L25 (a b : Msg) : LEnv := fun k => if k = 4 then ([2, 3, 27, 28], fun _ _ => lt25 a b 0) else ([2, 3, 45, 46], fun _ _ => lt25q a b 0)

set_option maxHeartbeats 0 in
theorem rsame_ok (a b : Msg) (ha : MsgW a) : Ok P 25 [.agg a.cells, .agg b.cells] (Bo (sameS a b)) := by
  refine fn_trS Ei_ok (L25 a b) Try.func25 ((.node (((↑a.names.n : Int) : Int) != (↑b.names.n : Int)) (
     .leaf (Bo false) []) (
     .node (((↑a.qids.n : Int) : Int) != (↑b.qids.n : Int)) (
      .leaf (Bo false) []) (
      .node (anyI (diffN a b) a.names.n 0) (
       .leaf (Bo false) [LoopSem P (loopAt Try.f25 4) (([Z, Z, PV.ptr 0 0 0, PV.ptr 1 0 0, Z, Z, Z, Z, Z, Z, Z, Z, Z, Z, Z, Z, Z, Z, Z, Z, Z, Z, Z, Z, Z, Z, Z, I (↑a.names.n : Int), I 0] ++ List.replicate 193 Z)) ([{ es := [a.cells], st := 0, par := [], sz := 39 }, { es := [b.cells], st := 0, par := [], sz := 39 }]) (Out.ret) (([Z, Z, PV.ptr 0 0 0, PV.ptr 1 0 0, PV.bit false] ++ List.replicate 217 Z)) ([{ es := [a.cells], st := 0, par := [], sz := 39 }, { es := [b.cells], st := 0, par := [], sz := 39 }])]) (
       .node (anyI (diffQ a b) a.qids.n 0) (
        .leaf (Bo false) [LoopSem P (loopAt Try.f25 4) (([Z, Z, PV.ptr 0 0 0, PV.ptr 1 0 0, Z, Z, Z, Z, Z, Z, Z, Z, Z, Z, Z, Z, Z, Z, Z, Z, Z, Z, Z, Z, Z, Z, Z, I (↑a.names.n : Int), I 0] ++ List.replicate 193 Z)) ([{ es := [a.cells], st := 0, par := [], sz := 39 }, { es := [b.cells], st := 0, par := [], sz := 39 }]) (Out.ext 0) (([Z, Z, PV.ptr 0 0 0, PV.ptr 1 0 0] ++ List.replicate 218 Z)) ([{ es := [a.cells], st := 0, par := [], sz := 39 }, { es := [b.cells], st := 0, par := [], sz := 39 }]), LoopSem P (loopAt Try.f25 10) (([Z, Z, PV.ptr 0 0 0, PV.ptr 1 0 0, Z, Z, Z, Z, Z, Z, Z, Z, Z, Z, Z, Z, Z, Z, Z, Z, Z, Z, Z, Z, Z, Z, Z, Z, Z, Z, Z, Z, Z, Z, Z, Z, Z, Z, Z, Z, Z, Z, Z, Z, Z, I (↑a.qids.n : Int), I 0] ++ List.replicate 175 Z)) ([{ es := [a.cells], st := 0, par := [], sz := 39 }, { es := [b.cells], st := 0, par := [], sz := 39 }]) (Out.ret) (([Z, Z, PV.ptr 0 0 0, PV.ptr 1 0 0, PV.bit false] ++ List.replicate 217 Z)) ([{ es := [a.cells], st := 0, par := [], sz := 39 }, { es := [b.cells], st := 0, par := [], sz := 39 }])]) (
        .say .specs (
        .leaf (Bo (bif bif bif bif bif bif bif bif bif bif bif bif bif bif bif bif bif a.kind == b.kind then a.tag == b.tag else false then a.fid == b.fid else false then a.newFid == b.newFid else false then a.authFid == b.authFid else false then a.oldTag == b.oldTag else false then a.msize == b.msize else false then a.iounit == b.iounit else false then a.mode == b.mode else false then a.perm == b.perm else false then a.offset == b.offset else false then a.count == b.count else false then bif bif bif bif bif eqS a.version b.version then eqS a.user b.user else false then eqS a.attach b.attach else false then eqS a.name b.name else false then eqS a.data b.data else false then eqS a.session b.session else false else false then a.qid.ty == b.qid.ty && (a.qid.vers == b.qid.vers && (a.qid.path == b.qid.path && true)) else false then a.stat.ty == b.stat.ty && (a.stat.dev == b.stat.dev && (a.stat.qid.ty == b.stat.qid.ty && (a.stat.qid.vers == b.stat.qid.vers && (a.stat.qid.path == b.stat.qid.path && true)) && (a.stat.mode == b.stat.mode && (a.stat.atime == b.stat.atime && (a.stat.mtime == b.stat.mtime && (a.stat.len == b.stat.len && (eqS a.stat.name b.stat.name && (eqS a.stat.uid b.stat.uid && (eqS a.stat.gid b.stat.gid && (eqS a.stat.muid b.stat.muid && true)))))))))) else false then a.err == b.err else false then a.lease == b.lease else false then a.term == b.term else false)) [LoopSem P (loopAt Try.f25 4) (([Z, Z, PV.ptr 0 0 0, PV.ptr 1 0 0, Z, Z, Z, Z, Z, Z, Z, Z, Z, Z, Z, Z, Z, Z, Z, Z, Z, Z, Z, Z, Z, Z, Z, I (↑a.names.n : Int), I 0] ++ List.replicate 193 Z)) ([{ es := [a.cells], st := 0, par := [], sz := 39 }, { es := [b.cells], st := 0, par := [], sz := 39 }]) (Out.ext 0) (([Z, Z, PV.ptr 0 0 0, PV.ptr 1 0 0] ++ List.replicate 218 Z)) ([{ es := [a.cells], st := 0, par := [], sz := 39 }, { es := [b.cells], st := 0, par := [], sz := 39 }]), LoopSem P (loopAt Try.f25 10) (([Z, Z, PV.ptr 0 0 0, PV.ptr 1 0 0, Z, Z, Z, Z, Z, Z, Z, Z, Z, Z, Z, Z, Z, Z, Z, Z, Z, Z, Z, Z, Z, Z, Z, Z, Z, Z, Z, Z, Z, Z, Z, Z, Z, Z, Z, Z, Z, Z, Z, Z, Z, I (↑a.qids.n : Int), I 0] ++ List.replicate 175 Z)) ([{ es := [a.cells], st := 0, par := [], sz := 39 }, { es := [b.cells], st := 0, par := [], sz := 39 }]) (Out.ext 2) (([Z, Z, PV.ptr 0 0 0, PV.ptr 1 0 0] ++ List.replicate 218 Z)) ([{ es := [a.cells], st := 0, par := [], sz := 39 }, { es := [b.cells], st := 0, par := [], sz := 39 }])]))))))) (by kernel_rfl) (by kernel_rfl) ?_
  have h1 := ha.nn
  have h2 := ha.qn
  have hn : a.names.n = b.names.n → (a.names.list = b.names.list ↔ anyI (diffN a b) a.names.n 0 = false) := list_eq_iff _ _ _ (fun i => by simp [diffN])
  have hq : a.qids.n = b.qids.n → (a.qids.list = b.qids.list ↔ anyI (diffQ a b) a.qids.n 0 = false) := list_eq_iff _ _ _ (fun i => by simp [diffQ])
  have hn' : ¬ a.names.n = b.names.n → ¬ a.names.list = b.names.list := fun h e => h (by have := congrArg List.length e; simpa using this)
  have hq' : ¬ a.qids.n = b.qids.n → ¬ a.qids.list = b.qids.list := fun h e => h (by have := congrArg List.length e; simpa using this)
  have c1 : a.names.n = b.names.n → LoopT P (loopAt Try.f25 4) (st25 a 0) (h25 a b) (lt25 a b 0) := fun h => lp25 a b h1 h 0 (by omega) (by omega)
  have c2 : a.qids.n = b.qids.n → LoopT P (loopAt Try.f25 10) (st25q a 0) (h25 a b) (lt25q a b 0) := fun h => lp25q a b h2 h 0 (by omega) (by omega)
  have e : ∀ c : Prop, [Decidable c] → (c ↔ sameP a b) → (Bo (decide c) = Bo (sameS a b)) := fun c _ h => by rw [sameS, decide_eq_decide.2 h]
  simp only [Tr.All, AllP, bne_iff_ne, bne_eq_false_iff_eq, eqS_decide]
  repeat' with_reducible first | intro _ | refine And.intro ?_ ?_
  all_goals first | trivial | omega | exact ((c1 (by omega)).t (by assumption)).one | exact ((c1 (by omega)).f (by assumption)).one | exact ((c2 (by omega)).t (by assumption)).one | exact ((c2 (by omega)).f (by assumption)).one | exact congrArg Bo (by grind [sameS, sameP, qid_eq, dir_eq])
end Go.Proofs.Ytnkmcmflfedmkaa
