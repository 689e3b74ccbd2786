/- Every operation of the evaluator is an operation of the model. -/
import Derived.Test.YtldmgdphelgffaaDoorPS11a
namespace Go.PS
open Go.RowKit

section
variable {E : Env} {P : Program} {w0 w : World} {Sa S : Nat → Prop} {h h' : Hp} {m : Mp} {a : Act} {o : Oper} {T : List PV} {s s' : Scr} {ob : List Prop} {v : PV} {next : Act → World → Prop} {Q : Exit → Act → World → Prop}

theorem int_of (hT : ∀ x ∈ o.op.operands, ∀ p, opnd T x = some p → Rep w S m p (a.eval x)) {y : Operand} {n : Int} (hy : y ∈ o.op.operands) (hi : intP T y = some n) : ∃ k, a.eval y = .int k n := by
  unfold intP at hi
  split at hi
  · rename_i k n' hp
    cases hi
    exact ⟨k, sc_inv (hT y hy _ hp)⟩
  · cases hi

theorem run_alloc {t : TypeId} {z : Value} (hz : zeroP P t = some z) (hop : o.op = .alloc t) : (execOp a.eval o).run P w = .ok (.value (.pointer (some ⟨w.heap.size, 0, none⟩))) (w.alloc (.cells z.cells t)) := by
  simp [execOp, hop, Instr.alloc, run_zero hz, newVar, newRow]

theorem loadE_ok {t : TypeId} {e : List PV} {p q : PV} {X : Prop} (hq : loadE P h t e p = some (q, X)) (hX : X) : loadP P h t p = some q := by
  unfold loadE at hq
  unfold loadP
  split at hq
  · rename_i id i off
    split at hq
    · rename_i B hB
      split at hq
      · rename_i hst
        split at hq
        · rename_i q' hp
          cases hq
          simp only [if_pos hst]
          rw [hX]
          exact hp
        · cases hq
      · cases hq
    · cases hq
  · rename_i cs off
    split at hq
    · rename_i q' hp
      cases hq
      subst hX
      exact hp
    · cases hq
  · cases hq

theorem strTab_get : ∀ {es : List (List PV)} {l : List ByteArray}, strTab es = some l → l.length = es.length ∧ ∀ i, i < es.length → es[i]? = some [.sc (.string (l.getD i default))]
  | [], l, h => by simp [strTab] at h; subst h; simp
  | e :: r, l, h => by
    unfold strTab at h
    split at h
    · rename_i hnil; cases hnil
    · rename_i b r' heq
      cases heq
      split at h
      · rename_i l' hl
        cases h
        obtain ⟨h1, h2⟩ := strTab_get hl
        refine ⟨by simp [h1], fun i hi => ?_⟩
        cases i with
        | zero => simp
        | succ i => simp at hi ⊢; simpa using h2 i hi
      · cases h
    · cases h

theorem intTab_get {k : IntKind} : ∀ {es : List (List PV)} {l : List Int}, intTab k es = some l → l.length = es.length ∧ ∀ i, i < es.length → es[i]? = some [.sc (.int k (l.getD i 0))]
  | [], l, h => by simp [intTab] at h; subst h; simp
  | e :: r, l, h => by
    unfold intTab at h
    split at h
    · rename_i hnil; cases hnil
    · rename_i k' n r' heq
      cases heq
      split at h
      · rename_i hk
        subst hk
        split at h
        · rename_i l' hl
          cases h
          obtain ⟨h1, h2⟩ := intTab_get hl
          refine ⟨by simp [h1], fun i hi => ?_⟩
          cases i with
          | zero => simp
          | succ i => simp at hi ⊢; simpa using h2 i hi
        · cases h
      · cases h
    · cases h

theorem tab_ok {t : TypeId} {es : List (List PV)} {i : Nat} {q : PV} {X : Prop} (hq : tabP P t es i = some (q, X)) (hX : X) : ∃ e, es[i]? = some e ∧ partP P t e 0 = some q := by
  unfold tabP at hq
  split at hq
  · rename_i hu
    split at hq
    · rename_i l hl
      cases hq
      refine ⟨_, (strTab_get hl).2 i hX, ?_⟩
      simp [partP, aggP, hu]
    · cases hq
  · rename_i k hu
    split at hq
    · rename_i l hl
      cases hq
      refine ⟨_, (intTab_get hl).2 i hX, ?_⟩
      simp [partP, aggP, hu]
    · cases hq
  · cases hq

theorem loadT_ok {t : TypeId} {p q : PV} {X : Prop} (hq : loadT P h t p = some (q, X)) (hX : X) : loadP P h t p = some q := by
  unfold loadT at hq
  split at hq
  · rename_i id i
    split at hq
    · rename_i B hB
      split at hq
      · rename_i hst
        obtain ⟨e, e1, e2⟩ := tab_ok hq hX
        simp only [loadP, hB, if_pos hst, e1]
        exact e2
      · cases hq
    · cases hq
  · cases hq

theorem evalOp_sound {dr : Bool} (hI : Inv w0 Sa h S m w) (hT : ∀ x ∈ o.op.operands, ∀ p, opnd T x = some p → Rep w S m p (a.eval x)) (hE : EnvOk P E) (hGI : GI P w0) (he : evalOp P E dr T h o s = some (v, h', ob, s')) (hob : ∀ X ∈ ob, X)
    (hn : ∀ v' w', Post w0 Sa h' S m w v v' w' → next (a.put o.dst v') w') : o.wp P a w next Q := by
  unfold evalOp at he
  split at he
  · -- move
    rename_i x hop
    split at he
    · rename_i p hp
      cases he
      exact wp_value (v' := a.eval x) (by simp [execOp, hop]) (hn _ _ (post_same hI (hT x (by rw [hop]; simp [Op.operands]) _ hp)))
    · cases he
  · -- assign
    rename_i x hop
    split at he
    · rename_i p hp
      cases he
      exact wp_value (v' := a.eval x) (by simp [execOp, hop]) (hn _ _ (post_same hI (hT x (by rw [hop]; simp [Op.operands]) _ hp)))
    · cases he
  · -- pick
    rename_i c x y hop
    have hin : ∀ {q : Operand}, q = c ∨ q = x ∨ q = y → q ∈ o.op.operands := by rintro q (rfl | rfl | rfl) <;> rw [hop] <;> simp [Op.operands]
    split at he
    · rename_i hc
      have hcv := bit_inv (hT c (hin (.inl rfl)) _ hc)
      split at he
      · rename_i p hp
        cases he
        exact wp_value (v' := a.eval x) (by simp [execOp, hop, hcv, asBool]) (hn _ _ (post_same hI (hT x (hin (.inr (.inl rfl))) _ hp)))
      · cases he
    · rename_i hc
      have hcv := bit_inv (hT c (hin (.inl rfl)) _ hc)
      split at he
      · rename_i p hp
        cases he
        exact wp_value (v' := a.eval y) (by simp [execOp, hop, hcv, asBool]) (hn _ _ (post_same hI (hT y (hin (.inr (.inr rfl))) _ hp)))
      · cases he
    · cases he
  · -- alloc
    rename_i t hop
    split at he
    · cases he
    · split at he
      · rename_i z hz
        cases he
        exact box_sound hI (run_alloc hz hop) (by simp) (zero_rep z) hn
      · cases he
  · -- box
    rename_i t x hop
    split at he
    · cases he
    · split at he
      · rename_i p hp
        split at he
        · rename_i cs hcs
          cases he
          obtain ⟨h1, h2⟩ := rep_cells (hT x (by rw [hop]; simp [Op.operands]) _ hp) hcs
          exact box_sound (t := t) (u := a.eval x) hI (by simp [execOp, hop, Instr.box, newVar, newRow]) h1 h2 hn
        · cases he
      · cases he
  · -- build
    rename_i t parts hop
    split at he
    · rename_i ps hps
      split at he
      · rename_i p hp
        cases he
        exact build_sound hI hop hT hps hp hn
      · cases he
    · cases he
  · -- buildSlice
    rename_i t n parts hop
    split at he
    · rename_i e ps hu hps
      split at he
      · rename_i z hz
        split at he
        · rename_i es hes
          split at he
          · rename_i hcond
            obtain ⟨h1, h2, h3, h4⟩ := hcond
            split at he
            · rename_i hdr
              split at he
              · rename_i hst
                cases he
                exact buildSlice_sound (dr := dr) hI hop hT hps hu hz hes h1 h2 h3 h4 (.inl ⟨hdr, hst, rfl, rfl⟩) hn
              · cases he
            · cases he
              exact buildSlice_sound (dr := dr) hI hop hT hps hu hz hes h1 h2 h3 h4 (.inr ⟨rfl, rfl⟩) hn
          · cases he
        · cases he
      · cases he
    · cases he
  · -- load
    rename_i t x hop
    split at he
    · rename_i p hp
      have hr := hT x (by rw [hop]; simp [Op.operands]) _ hp
      split at he
      · rename_i e s2
        split at he
        · rename_i q X hq
          cases he
          exact load_sound hI hop hr (loadE_ok hq (hob _ (List.mem_singleton.2 rfl))) hn
        · cases he
      · split at he
        · rename_i q hq
          cases he
          exact load_sound hI hop hr hq hn
        · cases he
      · split at he
        · rename_i q X hq
          cases he
          exact load_sound hI hop hr (loadT_ok hq (hob _ (List.mem_singleton.2 rfl))) hn
        · cases he
      · split at he
        · rename_i q hq
          cases he
          exact load_sound hI hop hr hq hn
        · cases he
    · cases he
  · -- store
    rename_i t x y hop
    split at he
    · rename_i p q hp hq
      split at he
      · cases he
      split at he
      · rename_i h2 hs
        cases he
        exact store_sound hI hop (hT x (by rw [hop]; simp [Op.operands]) _ hp) (hT y (by rw [hop]; simp [Op.operands]) _ hq) hs hn
      · cases he
    · cases he
  · -- nilCheck
    rename_i x hop
    split at he
    · rename_i id i off hp
      cases he
      have hr := hT x (by rw [hop]; simp [Op.operands]) _ hp
      obtain ⟨b, o', sz, hm, hu⟩ := ptr_inv hr
      exact wp_value (v' := a.eval x) (by simp [execOp, hop, hu]) (hn _ _ (post_same hI hr))
    · rename_i cs off hp
      cases he
      have hr := hT x (by rw [hop]; simp [Op.operands]) _ hp
      obtain ⟨b, o', hu, _⟩ := cel_inv hr
      exact wp_value (v' := a.eval x) (by simp [execOp, hop, hu]) (hn _ _ (post_same hI hr))
    · exact plain_sound hI hT he hn
  · -- fieldAddr
    rename_i t x f hop
    split at he
    · rename_i fs p hu hp
      split at he
      · rename_i fd hf
        split at he
        · rename_i n id i off hz
          cases he
          exact fieldAddr_ptr hI hop hu hf hz (hT x (by rw [hop]; simp [Op.operands]) _ hp) hn
        · rename_i n cs off hz
          cases he
          exact fieldAddr_cel hI hop hu hf hz (hT x (by rw [hop]; simp [Op.operands]) _ hp) hn
        · cases he
      · cases he
    · cases he
  · -- indexAddr
    rename_i t x i hop
    split at he
    · rename_i p n hp hi
      split at he
      · rename_i q ob' hq
        cases he
        obtain ⟨k, hy⟩ := int_of hT (y := i) (by rw [hop]; simp [Op.operands]) hi
        exact indexAddr_sound hI hop hy (unwho_rep (hT x (by rw [hop]; simp [Op.operands]) _ hp)) hq hob hn
      · cases he
    · cases he
  · -- slice
    rename_i t x lo hi mx hop
    split at he
    · rename_i p hp
      split at he
      · rename_i q ob' hq
        cases he
        refine slice_sound hI hop (unwho_rep (hT x (by rw [hop]; simp [Op.operands]) _ hp)) (fun y hy p' hp' => hT y ?_ p' hp') (fun y hy p' hp' => hT y ?_ p' hp') hq hob hn
        · rw [hop]; cases lo <;> simp_all [Op.operands]
        · rw [hop]; cases hi <;> simp_all [Op.operands]
      · cases he
    · cases he
  · -- field
    rename_i t x f hop
    split at he
    · rename_i fs cs hu hp
      split at he
      · rename_i fd hf
        split at he
        · rename_i q hq
          cases he
          exact field_sound hI hop hu hf (hT x (by rw [hop]; simp [Op.operands]) _ hp) hq hn
        · cases he
      · cases he
    · cases he
  · -- index
    rename_i t x i hop
    split at he
    · rename_i b n hu hp hi
      cases he
      obtain ⟨k, hy⟩ := int_of hT (y := i) (by rw [hop]; simp [Op.operands]) hi
      exact index_sound hI hop hu (sc_inv (hT x (by rw [hop]; simp [Op.operands]) _ hp)) hy (hob _ (by simp)) (hob _ (by simp)) hn
    · cases he
  · -- extract
    rename_i x i hop
    split at he
    · rename_i vs hp
      split at he
      · rename_i q hq
        cases he
        exact extract_sound hI hop (hT x (by rw [hop]; simp [Op.operands]) _ hp) hq hn
      · cases he
    · cases he
  · -- add
    rename_i k t x y t' hop
    split at he
    · rename_i v1 ob1 hb
      cases he
      exact bin_sound hI hop (fun p hp => hT x (by rw [hop]; simp [Op.operands]) p hp) (fun p hp => hT y (by rw [hop]; simp [Op.operands]) p hp) hb hob hn
    · exact plain_sound hI hT he hn
  · -- make
    rename_i t l c hop
    split at he
    · cases he
    · split at he
      · rename_i n k hl hc
        split at he
        · rename_i r h2 ob' hm
          cases he
          obtain ⟨kl, hx⟩ := int_of hT (y := l) (by rw [hop]; simp [Op.operands]) hl
          obtain ⟨kc, hy⟩ := int_of hT (y := c) (by rw [hop]; simp [Op.operands]) hc
          exact make_sound hI hop hx hy hm hob hn
        · cases he
      · cases he
  · -- convert
    rename_i src dst x hop
    split at he
    · rename_i v1 ob1 hcv
      cases he
      cases hx : opnd T x with
      | none =>
        rw [hx] at hcv
        unfold convP at hcv
        split at hcv
        · split at hcv
          · rename_i hq; cases hq
          · cases hcv
        · cases hcv
      | some q =>
        rw [hx] at hcv
        exact conv_sound hI hop (hT x (by rw [hop]; simp [Op.operands]) _ hx) hcv hob hn
    · exact plain_sound hI hT he hn
  · -- call
    rename_i f args ats hop
    exact call_sound hI hop hT hE hGI he hob hn
  · -- len
    rename_i x t hop
    split at he
    · rename_i p z hp hz
      split at he
      · rename_i n hl
        cases he
        obtain ⟨e, hu, _⟩ := elemSz_inv hz
        exact len_sound hI hop hu (hT x (by rw [hop]; simp [Op.operands, Call.operands]) _ hp) hl hn
      · cases he
    · exact plain_sound hI hT he hn
  · -- append
    rename_i x y t t2 hop
    split at he
    · cases he
    · split at he
      · rename_i p q z2 hp hq ht2
        split at he
        · rename_i r h2 ob' happ
          cases he
          exact append_sound hI hop (hT x (by rw [hop]; simp [Op.operands, Call.operands]) _ hp) (hT y (by rw [hop]; simp [Op.operands, Call.operands]) _ hq) ht2 happ hob hn
        · cases he
      · cases he
  · exact plain_sound hI hT he hn
end
end Go.PS
