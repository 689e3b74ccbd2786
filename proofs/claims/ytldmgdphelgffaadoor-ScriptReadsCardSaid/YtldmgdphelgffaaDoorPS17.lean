/- Bodies, loops, functions: the evaluator is sound. -/
import Derived.Test.YtldmgdphelgffaaDoorPS16
namespace Go.PS
open Go.RowKit

section
variable {E : Env} {L : LEnv} {P : Program} {w0 w : World} {Sa S : Nat → Prop} {h h' : Hp} {m : Mp} {a : Act} {o : Out} {T T' : List PV} {s s' : Scr} {ob : List Ob} {Q : Exit → Act → World → Prop}

def Out.toExit : Out → Exit
  | .norm => .normal
  | .ext id => .exit id
  | .ret => .ret

/-- What a loop comes to, said of the model. -/
def LoopSem (P : Program) (c : Code) (T : List PV) (h : Hp) (o : Out) (T' : List PV) (h' : Hp) : Prop :=
  ∃ n : Nat, ∀ (w0 : World) (Sa : Nat → Prop) (a : Act) (w : World) (Q : Exit → Act → World → Prop), GI P w0 → St w0 Sa T h a w → (∀ a' w', St w0 Sa T' h' a' w' → Q o.toExit a' w') → Code.rounds P c Q n a w

theorem St.decs (hSt : St w0 Sa T h a w) (hd : Decs T T') : St w0 Sa T' h a w := by
  obtain ⟨S, m, hI, hT, hdf⟩ := hSt
  exact ⟨S, m, hI, hT.decs hd, hdf⟩

theorem mask_get (live : List Nat) (T : List PV) (i : Nat) : (mask live T)[i]? = (T[i]?).map fun p => if live.contains i then p else .any := by
  unfold mask
  rw [List.getElem?_map, List.getElem?_zipIdx]
  cases T[i]? <;> simp

theorem St.mask {live : List Nat} (hSt : St w0 Sa T h a w) : St w0 Sa (PS.mask live T) h a w := by
  obtain ⟨S, m, hI, hT, hdf⟩ := hSt
  refine ⟨S, m, hI, ⟨by simp [PS.mask, hT.1], fun t p ht => ?_⟩, hdf⟩
  rw [mask_get] at ht
  cases h0 : T[t]? with
  | none => rw [h0] at ht; cases ht
  | some q =>
    rw [h0] at ht
    simp only [Option.map_some, Option.some.injEq] at ht
    subst ht
    split
    · exact hT.2 t q h0
    · exact .st _ _ (.any _)

theorem mapO_get {α β : Type} {f : α → Option β} : ∀ {l : List α} {r : List β}, mapO f l = some r → r.length = l.length ∧ ∀ (i : Nat) y, r[i]? = some y → ∃ x, l[i]? = some x ∧ f x = some y
  | [], r, h => by simp [mapO] at h; subst h; simp
  | x :: l, r, h => by
    simp only [mapO] at h
    split at h
    · rename_i y hy
      split at h
      · rename_i l' hl
        cases h
        obtain ⟨h1, h2⟩ := mapO_get hl
        refine ⟨by simp [h1], fun i z hi => ?_⟩
        cases i with
        | zero => simp at hi; subst hi; exact ⟨x, rfl, hy⟩
        | succ i => simp at hi; obtain ⟨u, u1, u2⟩ := h2 i z hi; exact ⟨u, by simpa using u1, u2⟩
      · cases h
    · cases h

theorem pos_get : ∀ {l : List Nat} {x j : Nat}, pos x l = some j → l[j]? = some x
  | [], x, j, h => by simp [pos] at h
  | y :: l, x, j, h => by
    simp only [pos] at h
    split at h
    · rename_i hxy; cases h; simp [hxy]
    · split at h
      · rename_i k hk
        cases h
        simpa using pos_get hk
      · cases h

theorem ren_rep {keep : List Nat} {m' : Mp} (hm : ∀ (j id : Nat) x, keep[j]? = some id → m[id]? = some x → m'[j]? = some x) : ∀ {n : Nat} {p p' : PV} {v : Value}, renN keep n p = some p' → Rep w S m p v → Rep w S m' p' v := by
  intro n
  induction n with
  | zero => intro p p' v h; simp [renN] at h
  | succ n ih =>
    intro p p' v h hr
    unfold renN at h
    split at h
    · split at h
      · rename_i id off len _ j hj
        cases h
        cases hr with
        | st _ _ h => cases h
        | own _ _ _ cap b o sz c et hm1 hz0 hb hcap hn => exact .own j off len cap b o sz c et (hm j id _ (pos_get hj) hm1) hz0 hb hcap hn
        | own0 => exact .own0 _ _ _
      · cases h
    · split at h
      · rename_i id i off _ j hj
        cases h
        obtain ⟨b, o', sz, hm1, rfl⟩ := ptr_inv hr
        exact .ptr j i off b o' sz (hm j id _ (pos_get hj) hm1)
      · cases h
    · split at h
      · rename_i id len _ j hj
        cases h
        refine .who _ _ _ ?_
        cases who_inv hr with
        | st _ _ h => cases h
        | own _ _ _ cap b o sz c et hm1 hz0 hb hcap hn => exact .own j 0 len cap b o sz c et (hm j id _ (pos_get hj) hm1) hz0 hb hcap hn
        | own0 => exact .own0 _ _ _
      · cases h
    · split at h
      · rename_i cs l hl
        cases h
        obtain ⟨vs, rfl, hlen, hc⟩ := agg_inv hr
        obtain ⟨h1, h2⟩ := mapO_get hl
        refine .agg _ _ (by omega) fun i c x q1 q2 => ?_
        obtain ⟨y, y1, y2⟩ := h2 i c q1
        exact ih y2 (hc i y x y1 q2)
      · cases h
    · split at h
      · rename_i cs l hl
        cases h
        obtain ⟨vs, rfl, hlen, hc⟩ := tup_inv hr
        obtain ⟨h1, h2⟩ := mapO_get hl
        refine .tup _ _ (by omega) fun i c x q1 q2 => ?_
        obtain ⟨y, y1, y2⟩ := h2 i c q1
        exact ih y2 (hc i y x y1 q2)
      · cases h
    · cases h
    · rename_i h1 h2 hw h3 h4 h5
      cases h
      cases hr with
      | st _ _ h => exact .st _ _ h
      | mux => exact absurd rfl (h5 _ _ _ _)
      | agg cs => exact absurd rfl (h3 _)
      | tup cs => exact absurd rfl (h4 _)
      | own => exact absurd rfl (h1 _ _ _)
      | own0 => exact absurd rfl (h1 _ _ _)
      | ptr => exact absurd rfl (h2 _ _ _)
      | who => exact absurd rfl (hw _ _)
      | cel cs off b o c et fz hS hb hn hc => exact .cel cs off b o c et fz hS hb hn hc

theorem gc_core {keep : List Nat} {T' : List PV} {h' : Hp} (hT1 : mapO (renN keep 4) T = some T') (hh1 : mapO (renB h keep) keep = some h') (hnd : keep.Nodup) (hSt : St w0 Sa T h a w) : St w0 Sa T' h' a w := by
  obtain ⟨S, m, hI, hT, hdf⟩ := hSt
  obtain ⟨t1, t2⟩ := mapO_get hT1
  obtain ⟨k1, k2⟩ := mapO_get hh1
  have hkm : ∀ id ∈ keep, ∃ x, m[id]? = some x := by
    intro id hid
    obtain ⟨j, hj⟩ := List.getElem?_of_mem hid
    have hjl : j < h'.length := by rw [k1]; exact (List.getElem?_eq_some_iff.1 hj).1
    obtain ⟨id', e1, e2⟩ := k2 j h'[j] (by simp [hjl])
    rw [hj] at e1
    cases e1
    unfold renB at e2
    split at e2
    · rename_i B hB
      have : id < m.length := by rw [hI.len]; exact (List.getElem?_eq_some_iff.1 hB).1
      exact ⟨m[id], by simp [this]⟩
    · cases e2
  have hmm : ∀ (j id : Nat) x, keep[j]? = some id → m[id]? = some x → (keep.map fun id => m.getD id (0, 0, 0))[j]? = some x := by
    intro j id x h1 h2
    rw [List.getElem?_map, h1]
    simp [List.getD, h2]
  have hmb : ∀ {j : Nat} {x : Nat × Nat × Nat}, (keep.map fun id => m.getD id (0, 0, 0))[j]? = some x → ∃ id, keep[j]? = some id ∧ m[id]? = some x := by
    intro j x h1
    rw [List.getElem?_map] at h1
    cases hk : keep[j]? with
    | none => rw [hk] at h1; cases h1
    | some id =>
      rw [hk] at h1
      obtain ⟨y, hy⟩ := hkm id (List.mem_of_getElem? hk)
      simp [List.getD, hy] at h1
      exact ⟨id, rfl, by rw [hy, h1]⟩
  have hblk : ∀ {j : Nat} {B' : Blk}, h'[j]? = some B' → ∃ id B, keep[j]? = some id ∧ h[id]? = some B ∧ B.st ≠ 1 ∧ B'.st = B.st ∧ B'.par = [] ∧ B'.sz = B.sz ∧ B'.sym = B.sym ∧ B'.es.length = B.es.length ∧ (B'.sym = true → B'.es = B.es) ∧
      ∀ (i : Nat) e', B'.es[i]? = some e' → ∃ e, B.es[i]? = some e ∧ e'.length = e.length ∧ ∀ (k : Nat) p', e'[k]? = some p' → ∃ p, e[k]? = some p ∧ ∀ v, Rep w S m p v → Rep w S (keep.map fun id => m.getD id (0, 0, 0)) p' v := by
    intro j B' hj
    obtain ⟨id, e1, e2⟩ := k2 j B' hj
    unfold renB at e2
    split at e2
    · rename_i B hB
      split at e2
      · cases e2
      · rename_i hst
        split at e2
        · rename_i hsy
          cases e2
          refine ⟨id, B, e1, hB, hst, rfl, rfl, rfl, rfl, rfl, fun _ => rfl, fun i e' hi => ⟨e', hi, rfl, fun k p' hk => ⟨p', hk, fun v hv => ?_⟩⟩⟩
          have hs := List.all_eq_true.1 (hI.syms id B hB hsy e' (List.mem_of_getElem? hi)) p' (List.mem_of_getElem? hk)
          exact .st _ _ (stab_rep hv hs)
        · rename_i hsy
          split at e2
          · rename_i es hes
            cases e2
            obtain ⟨q1, q2⟩ := mapO_get hes
            refine ⟨id, B, e1, hB, hst, rfl, rfl, rfl, rfl, q1, fun h => (by rw [hsy] at h; cases h), fun i e' hi => ?_⟩
            obtain ⟨x, x1, x2⟩ := q2 i e' hi
            refine ⟨x, x1, (mapO_get x2).1, fun k p' hk => ?_⟩
            obtain ⟨y, y1, y2⟩ := (mapO_get x2).2 k p' hk
            exact ⟨y, y1, fun v hv => ren_rep hmm y2 hv⟩
          · cases e2
    · cases e2
  have hrl : ∀ {es es' : List (List PV)} {sz : Nat}, es'.length = es.length → Rl es' sz → Rl es sz := by
    intro es es' sz h1 h2
    rcases h2 with h2 | h2
    · refine .inl fun h0 => h2 ?_
      rw [h0] at h1
      exact List.eq_nil_of_length_eq_zero h1
    · exact .inr h2
  refine ⟨S, keep.map fun id => m.getD id (0, 0, 0), ⟨hI.bel, hI.sub, hI.lt, by simp [k1], ?_, ?_, ?_, ?_, ?_, ?_, ?_, ?_⟩, ⟨by rw [t1]; exact hT.1, fun t p ht => ?_⟩, hdf⟩
  · intro j B' b o sz hj hst hmj hr
    obtain ⟨id, B, e1, e2, e3, e4, e5, e6, es0, e7, e8, e9⟩ := hblk hj
    obtain ⟨id', f1, f2⟩ := hmb hmj
    rw [e1] at f1
    cases f1
    obtain ⟨c, et, g1, g2, g3, g4⟩ := hI.blk id B b o sz e2 (by omega) f2 (hrl e7 hr)
    refine ⟨c, et, g1, by rw [e7]; exact g2, fun e he => ?_, fun i k e p v r1 r2 r3 => ?_⟩
    · obtain ⟨i, hi⟩ := List.getElem?_of_mem he
      obtain ⟨x, x1, x2, _⟩ := e9 i e hi
      rw [x2]
      exact g3 x (List.mem_of_getElem? x1)
    · obtain ⟨x, x1, _, x3⟩ := e9 i e r1
      obtain ⟨y, y1, y2⟩ := x3 k p r2
      exact y2 v (g4 i k x y v x1 y1 r3)
  · intro j B' b o sz hj hst hmj hr
    obtain ⟨id, B, e1, e2, e3, e4, e5, e6, es0, e7, e8, e9⟩ := hblk hj
    obtain ⟨id', f1, f2⟩ := hmb hmj
    rw [e1] at f1
    cases f1
    exact hI.live id B b o sz e2 (by omega) f2 (hrl e7 hr)
  · intro j j' B1 B2 b o sz o' sz' hj hst hmj hj' hst' hmj' hr hr'
    obtain ⟨id, B, e1, e2, e3, e4, e5, e6, es0, e7, e8, e9⟩ := hblk hj
    obtain ⟨id', f1, f2⟩ := hmb hmj
    rw [e1] at f1
    cases f1
    obtain ⟨id2, C, e1', e2', e3', e4', e5', e6', es0', e7', e8', e9'⟩ := hblk hj'
    obtain ⟨id3, f1', f2'⟩ := hmb hmj'
    rw [e1'] at f1'
    cases f1'
    have := hI.uniq id id2 B C b o sz o' sz' e2 (by omega) f2 e2' (by omega) f2' (hrl e7 hr) (hrl e7' hr')
    subst this
    have l1 := (List.getElem?_eq_some_iff.1 e1).1
    have l2 := (List.getElem?_eq_some_iff.1 e1').1
    exact (List.getElem_inj hnd).1 ((List.getElem?_eq_some_iff.1 e1).2.trans (List.getElem?_eq_some_iff.1 e1').2.symm)
  · intro j B' b o sz hj hst hmj hr
    obtain ⟨id, B, e1, e2, e3, e4, e5, e6, es0, e7, e8, e9⟩ := hblk hj
    omega
  · intro j q B' Bq hj hq
    obtain ⟨id, B, e1, e2, e3, e4, e5, e6, es0, e7, e8, e9⟩ := hblk hj
    rw [e5] at hq
    cases hq
  · intro j q B' hj hq
    obtain ⟨id, B, e1, e2, e3, e4, e5, e6, es0, e7, e8, e9⟩ := hblk hj
    rw [e5] at hq
    cases hq
  · intro j B' b o sz hj hmj hr
    obtain ⟨id, B, e1, e2, e3, e4, e5, e6, es0, e7, e8, e9⟩ := hblk hj
    obtain ⟨id', f1, f2⟩ := hmb hmj
    rw [e1] at f1
    cases f1
    rw [e6]
    exact hI.msz id B b o sz e2 f2 (hrl e7 hr)
  · intro j B' hj hs
    obtain ⟨id, B, e1, e2, e3, e4, e5, e6, es0, e7, e8, e9⟩ := hblk hj
    rw [e8 hs]
    exact hI.syms id B e2 (by rw [← es0]; exact hs)
  · obtain ⟨q, q1, q2⟩ := t2 t p ht
    exact ren_rep hmm q2 (hT.2 t q q1)

theorem gc_sound {T' : List PV} {h' : Hp} (hg : gc T h = some (T', h')) (hSt : St w0 Sa T h a w) : St w0 Sa T' h' a w := by
  unfold gc at hg
  split at hg
  · cases hg; exact hSt
  · split at hg
    · rename_i T1 h1 hT1 hh1
      split at hg
      · rename_i hnd
        cases hg
        exact gc_core hT1 hh1 hnd hSt
      · cases hg
    · cases hg

theorem trim_sound {live : List Nat} {T' : List PV} {h' : Hp} (hg : trim live T h = some (T', h')) (hSt : St w0 Sa T h a w) : St w0 Sa T' h' a w := gc_sound hg hSt.mask

/-- A block's elements are told to be as they need not be written out. -/
theorem Inv.mark {S : Nat → Prop} {m : Mp} (hI : Inv w0 Sa h S m w) {id : Nat} {B : Blk} (hB : h[id]? = some B) (hs : Stabs B.es) : Inv w0 Sa (h.set id { B with sym := true }) S m w := by
  have hset : ∀ {q : Nat} {X : Blk}, (h.set id { B with sym := true })[q]? = some X → ∃ Y, h[q]? = some Y ∧ X.es = Y.es ∧ X.st = Y.st ∧ X.par = Y.par ∧ X.sz = Y.sz ∧ (X.sym = true → Stabs Y.es) := by
    intro q X hq
    rw [List.getElem?_set] at hq
    by_cases hqi : id = q
    · subst hqi
      have : id < h.length := (List.getElem?_eq_some_iff.1 hB).1
      simp [this] at hq
      subst hq
      exact ⟨B, hB, rfl, rfl, rfl, rfl, fun _ => hs⟩
    · rw [if_neg hqi] at hq
      exact ⟨X, hq, rfl, rfl, rfl, rfl, hI.syms q X hq⟩
  have hget : ∀ {q : Nat} {Y : Blk}, h[q]? = some Y → ∃ X, (h.set id { B with sym := true })[q]? = some X ∧ X.es = Y.es ∧ X.st = Y.st ∧ X.par = Y.par := by
    intro q Y hq
    rw [List.getElem?_set]
    by_cases hqi : id = q
    · subst hqi
      have : id < h.length := (List.getElem?_eq_some_iff.1 hB).1
      rw [hB] at hq
      cases hq
      exact ⟨{ B with sym := true }, by simp [this], rfl, rfl, rfl⟩
    · rw [if_neg hqi]
      exact ⟨Y, hq, rfl, rfl, rfl⟩
  refine ⟨hI.bel, hI.sub, hI.lt, by simpa using hI.len, ?_, ?_, ?_, ?_, ?_, ?_, ?_, ?_⟩
  · intro q X b o sz h1 h2 h3 h4
    obtain ⟨Y, y1, y2, y3, y4, y5, y6⟩ := hset h1
    rw [y2] at h4 ⊢
    exact hI.blk q Y b o sz y1 (y3 ▸ h2) h3 h4
  · intro q X b o sz h1 h2 h3 h4
    obtain ⟨Y, y1, y2, y3, y4, y5, y6⟩ := hset h1
    rw [y2] at h4
    exact hI.live q Y b o sz y1 (y3 ▸ h2) h3 h4
  · intro q q' X X' b o sz o' sz' h1 h2 h3 h1' h2' h3' h4 h4'
    obtain ⟨Y, y1, y2, y3, y4, y5, y6⟩ := hset h1
    obtain ⟨Y', y1', y2', y3', y4', y5', y6'⟩ := hset h1'
    rw [y2] at h4
    rw [y2'] at h4'
    exact hI.uniq q q' Y Y' b o sz o' sz' y1 (y3 ▸ h2) h3 y1' (y3' ▸ h2') h3' h4 h4'
  · intro q X b o sz h1 h2 h3 h4
    obtain ⟨Y, y1, y2, y3, y4, y5, y6⟩ := hset h1
    rw [y2] at h4 ⊢
    rcases hI.froz q Y b o sz y1 (y3 ▸ h2) h3 h4 with hS | ⟨id', B', o', z', q1, q2, q3, q4, q5, q6⟩
    · exact .inl hS
    · obtain ⟨X', x1, x2, x3, x4⟩ := hget q1
      exact .inr ⟨id', X', o', z', x1, x3 ▸ q2, q3, x2 ▸ q4, x4 ▸ q5, x2 ▸ q6⟩
  · intro q r X Xr h1 h2 h3
    obtain ⟨Y, y1, y2, y3, y4, y5, y6⟩ := hset h1
    obtain ⟨Z, z1, z2, z3, z4, z5, z6⟩ := hset h3
    rw [z3]
    exact hI.pars q r Y Z y1 (y4 ▸ h2) z1
  · intro q r X h1 h2
    obtain ⟨Y, y1, y2, y3, y4, y5, y6⟩ := hset h1
    rw [List.length_set]
    exact hI.parl q r Y y1 (y4 ▸ h2)
  · intro q X b o sz h1 h3 h4
    obtain ⟨Y, y1, y2, y3, y4, y5, y6⟩ := hset h1
    rw [y2] at h4
    rw [y5]
    exact hI.msz q Y b o sz y1 h3 h4
  · intro q X h1 h2
    obtain ⟨Y, y1, y2, y3, y4, y5, y6⟩ := hset h1
    rw [y2]
    exact y6 h2

theorem whole_sound {t z : Nat} {T' : List PV} {h' : Hp} (hg : whole t z T h = some (T', h')) (hSt : St w0 Sa T h a w) : St w0 Sa T' h' a w := by
  obtain ⟨S, m, hI, hT, hdf⟩ := hSt
  have put : ∀ {m' : Mp} {p q : PV}, T[t]? = some p → (∀ v, Rep w S m p v → Rep w S m' q v) → (∀ p v, Rep w S m p v → Rep w S m' p v) → TOk w S m' (T.set t q) a := by
    intro m' p q hp hq hG
    refine ⟨by simpa using hT.1, fun k x hk => ?_⟩
    rw [List.getElem?_set] at hk
    by_cases htk : t = k
    · subst htk
      have : t < T.length := (List.getElem?_eq_some_iff.1 hp).1
      simp [this] at hk
      subst hk
      exact hq _ (hT.2 t p hp)
    · rw [if_neg htk] at hk
      exact hG _ _ (hT.2 k x hk)
  unfold whole at hg
  split at hg
  · rename_i hp
    split at hg
    · cases hg
      obtain ⟨hI', hG⟩ := hI.virt (sm := true) z [] (fun _ h => by cases h) (fun _ h => by cases h)
      refine ⟨S, _, hI', put hp (fun v hv => ?_) hG, hdf⟩
      obtain ⟨ad, rfl⟩ := nul_inv hv
      exact .who _ _ _ (.own0 _ _ _)
    · cases hg
  · rename_i id len hp
    split at hg
    · rename_i B hB
      split at hg
      · rename_i hc
        cases hg
        refine ⟨S, m, hI.mark hB ?_, put hp (fun v hv => .who _ _ _ hv) (fun _ _ h => h), hdf⟩
        rcases Bool.or_eq_true _ _ ▸ hc with h1 | h1
        · exact hI.syms id B hB h1
        · intro e he
          exact List.all_eq_true.1 h1 e he
      · cases hg
    · cases hg
  · cases hg
    exact ⟨S, m, hI, hT, hdf⟩
  · cases hg

theorem wholes_sound : ∀ {l : List (Nat × Nat)} {T T' : List PV} {h h' : Hp}, wholes l T h = some (T', h') → St w0 Sa T h a w → St w0 Sa T' h' a w
  | [], _, _, _, _, hg, hSt => by cases hg; exact hSt
  | (t, z) :: r, T, T', h, h', hg, hSt => by
    simp only [wholes] at hg
    split at hg
    · rename_i T1 h1 h2
      exact wholes_sound hg (whole_sound h2 hSt)
    · cases hg

theorem cond_sound {c : Operand} {b : Bool} (hc : condP T c s = some (b, T', ob, s')) (hob : ∀ X ∈ ob, X.holds) (hSt : St w0 Sa T h a w) : St w0 Sa T' h a w ∧ a.eval c = .bool b := by
  unfold condP at hc
  split at hc
  · rename_i t
    obtain ⟨d1, d2⟩ := dec_sound hc hob
    have h2 := hSt.decs d1
    obtain ⟨S, m, hI, hT, hdf⟩ := h2
    exact ⟨⟨S, m, hI, hT, hdf⟩, bit_inv (hT.2 t _ d2)⟩
  · cases hc
    exact ⟨hSt, rfl⟩
  · cases hc

theorem exec_sound (hE : EnvOk P E) (hGI : GI P w0) : ∀ {c : Code} {T T' : List PV} {h h' : Hp} {s s' : Scr} {o : Out} {ob : List Ob} {a : Act} {w : World} {Q : Exit → Act → World → Prop}, exec P E L (LoopSem P) c T h s = some (o, T', h', ob, s') → (∀ X ∈ ob, X.holds) → St w0 Sa T h a w →
    (∀ a' w', St w0 Sa T' h' a' w' → Q o.toExit a' w') → c.wp P Q a w := by
  intro c
  induction c with
  | skip =>
    intro T T' h h' s s' o ob a w Q he hob hSt hQ
    simp [exec] at he
    obtain ⟨rfl, rfl, rfl, _⟩ := he
    exact wp_skip (hQ a w hSt)
  | label l =>
    intro T T' h h' s s' o ob a w Q he hob hSt hQ
    simp [exec] at he
    obtain ⟨rfl, rfl, rfl, _⟩ := he
    exact wp_label (hQ a w hSt)
  | region id ops draw =>
    intro T T' h h' s s' o ob a w Q he hob hSt hQ
    simp only [exec] at he
    split at he
    · rename_i T1 h1 ob1 s1 hr
      cases he
      unfold runRegion at hr
      split at hr
      · rename_i hdr
        subst hdr
        split at hr
        · rename_i hcond
          rw [Bool.and_eq_true] at hcond
          split at hr
          · rename_i T2 h2 ob2 s2 us hD
            split at hr
            · rename_i hU
              cases hr
              exact draw_sound hE hGI hcond.1 hcond.2 hD hob hU hSt hQ
            · cases hr
          · cases hr
        · cases hr
      · rename_i hdr
        have : draw = false := by cases draw <;> simp_all
        subst this
        exact region_sound hE hGI hr hob hSt hQ
    · cases he
  | seq x y ihx ihy =>
    intro T T' h h' s s' o ob a w Q he hob hSt hQ
    simp only [exec] at he
    refine wp_seq ?_
    split at he
    · rename_i T1 h1 ob1 s1 hx
      split at he
      · rename_i o2 T2 h2 ob2 s2 hy
        cases he
        exact ihx hx (fun X hX => hob X (by simp [hX])) hSt fun a' w' hSt' => ihy hy (fun X hX => hob X (by simp [hX])) hSt' hQ
      · cases he
    · rename_i hne
      refine ihx he hob hSt fun a' w' hSt' => ?_
      cases o with
      | norm => exact absurd he (hne _ _ _ _)
      | ext id => exact hQ a' w' hSt'
      | ret => exact hQ a' w' hSt'
  | cond c x y ihx ihy =>
    intro T T' h h' s s' o ob a w Q he hob hSt hQ
    simp only [exec] at he
    split at he
    · rename_i T1 ob1 s1 hc
      split at he
      · rename_i o2 T2 h2 ob2 s2 hx
        cases he
        obtain ⟨hSt', hv⟩ := cond_sound hc (fun X hX => hob X (by simp [hX])) hSt
        exact wp_cond_true hv (ihx hx (fun X hX => hob X (by simp [hX])) hSt' hQ)
      · cases he
    · rename_i T1 ob1 s1 hc
      split at he
      · rename_i o2 T2 h2 ob2 s2 hx
        cases he
        obtain ⟨hSt', hv⟩ := cond_sound hc (fun X hX => hob X (by simp [hX])) hSt
        exact wp_cond_false hv (ihy hx (fun X hX => hob X (by simp [hX])) hSt' hQ)
      · cases he
    · cases he
  | block id x ihx =>
    intro T T' h h' s s' o ob a w Q he hob hSt hQ
    simp only [exec] at he
    refine wp_block ?_
    split at he
    · rename_i id' T1 h1 ob1 s1 hx
      split at he
      · rename_i hid
        cases he
        refine ihx hx hob hSt fun a' w' hSt' => ?_
        show Exit.inBlock id Q (.exit id') a' w'
        simp only [Exit.inBlock, hid, if_true]
        exact hQ a' w' hSt'
      · rename_i hid
        cases he
        refine ihx hx hob hSt fun a' w' hSt' => ?_
        show Exit.inBlock id Q (.exit id') a' w'
        simp only [Exit.inBlock, hid, if_false]
        exact hQ a' w' hSt'
    · rename_i hne
      refine ihx he hob hSt fun a' w' hSt' => ?_
      cases o with
      | norm => exact hQ a' w' hSt'
      | ext id' => exact absurd he (hne _ _ _ _ _)
      | ret => exact hQ a' w' hSt'
  | loop x ihx =>
    intro T T' h h' s s' o ob a w Q he hob hSt hQ
    simp only [exec] at he
    split at he
    · rename_i k hk
      split at he
      · rename_i Tw hw hwh
        split at he
        · rename_i T0 h0 htr
          split at he
          · rename_i o1 T1 h1 ob1 s1 hwk
            cases he
            obtain ⟨n, hn⟩ := (hob (.owe (LoopSem P x T0 h0 o T' h')) (by simp) : LoopSem P x T0 h0 o T' h')
            exact wp_loop_rounds n (hn w0 Sa a w Q hGI (trim_sound htr (wholes_sound hwh hSt)) hQ)
          · cases he
        · cases he
      · cases he
    · cases he
  | exit id =>
    intro T T' h h' s s' o ob a w Q he hob hSt hQ
    simp [exec] at he
    obtain ⟨rfl, rfl, rfl, _⟩ := he
    exact wp_exit (hQ a w hSt)
  | ret =>
    intro T T' h h' s s' o ob a w Q he hob hSt hQ
    simp [exec] at he
    obtain ⟨rfl, rfl, rfl, _⟩ := he
    exact wp_ret (hQ a w hSt)
  | _ =>
    intro T T' h h' s s' o ob a w Q he
    simp [exec] at he

/-- A loop: a round that goes on. -/
theorem loop_step (hE : EnvOk P E) {c : Code} {T1 T2 : List PV} {h1 h2 : Hp} (he : exec P E L (LoopSem P) c T h s = some (.norm, T1, h1, ob, s')) (hob : ∀ X ∈ ob, X.holds) (hl : LoopSem P c T1 h1 o T2 h2) : LoopSem P c T h o T2 h2 := by
  obtain ⟨n, hn⟩ := hl
  refine ⟨n + 1, fun w0 Sa a w Q hGI hSt hQ => ?_⟩
  rw [rounds_succ]
  exact exec_sound hE hGI he hob hSt fun a' w' hSt' => hn w0 Sa a' w' Q hGI hSt' hQ

/-- A loop: a round that leaves it. -/
theorem loop_out (hE : EnvOk P E) {c : Code} {T1 : List PV} {h1 : Hp} (he : exec P E L (LoopSem P) c T h s = some (o, T1, h1, ob, s')) (hob : ∀ X ∈ ob, X.holds) (ho : o ≠ .norm) : LoopSem P c T h o T1 h1 := by
  refine ⟨1, fun w0 Sa a w Q hGI hSt hQ => ?_⟩
  rw [rounds_succ]
  refine exec_sound hE hGI he hob hSt fun a' w' hSt' => ?_
  cases o with
  | norm => exact absurd rfl ho
  | ext id => exact hQ a' w' hSt'
  | ret => exact hQ a' w' hSt'

/-! Functions. -/
def resF (tmps : Array Value) : ResultVar → Sem Value
  | .tmp t => pure (tmps.getD t Go.undef)
  | .cell x t => do loadVar t (← asAddr (tmps.getD x Go.undef))

theorem results_eq (fn : Func) (tmps : Array Value) : results fn tmps = (do let vs ← fn.results.mapM (resF tmps); pure (if hh : vs.size = 1 then vs[0] else .tuple vs)) := rfl

theorem res_sound (hI : Inv w0 Sa h S m w) (hT : TOk w S m T a) : ∀ {rs : List ResultVar} {ps : List PV}, resP P T h rs = some ps →
    ∃ vs : List Value, (rs.mapM (resF a.tmps)).run P w = .ok vs w ∧ ps.length = vs.length ∧ ∀ (i : Nat) p v, ps[i]? = some p → vs[i]? = some v → Rep w S m p v
  | [], ps, hr => by
    simp [resP] at hr
    subst hr
    exact ⟨[], by simp, rfl, by simp⟩
  | .tmp t :: r, ps, hr => by
    simp only [resP] at hr
    split at hr
    · rename_i p hp
      split at hr
      · rename_i ps' hps
        cases hr
        obtain ⟨vs, q1, q2, q3⟩ := res_sound hI hT hps
        refine ⟨a.tmps.getD t Go.undef :: vs, by simp only [List.mapM_cons, Sem.run_bind, resF, Sem.run_pure, Result.andThen_ok, q1], by simp [q2], fun i p' v e1 e2 => ?_⟩
        cases i with
        | zero => simp at e1 e2; subst e1; subst e2; simpa using hT.2 t p hp
        | succ i => simp at e1 e2; exact q3 i p' v e1 e2
      · cases hr
    · cases hr
  | .cell x t :: r, ps, hr => by
    simp only [resP] at hr
    split at hr
    · rename_i q hq
      split at hr
      · rename_i p hp
        split at hr
        · rename_i ps' hps
          cases hr
          obtain ⟨vs, q1, q2, q3⟩ := res_sound hI hT hps
          have hrep := hT.2 x q hq
          obtain ⟨v, hv1, hv2⟩ : ∃ v, ((do loadVar t (← asAddr (a.tmps.getD x Go.undef))) : Sem Value).run P w = .ok v w ∧ Rep w S m p v := by
            unfold loadP at hp
            split at hp
            · rename_i id i off
              split at hp
              · rename_i B hB
                split at hp
                · rename_i hst
                  split at hp
                  · rename_i e he
                    obtain ⟨b, o', sz, hm, hu⟩ := ptr_inv hrep
                    obtain ⟨v', hrun, hr'⟩ := part_sound (P := P) (cells_of_own hI hB hst hm he) hp
                    exact ⟨v', by rw [hu]; simp [asAddr, hrun], hr'⟩
                  · cases hp
                · cases hp
              · cases hp
            · obtain ⟨b, o', hu, hC, _⟩ := cel_inv hrep
              obtain ⟨v', hrun, hr'⟩ := part_sound (P := P) hC hp
              exact ⟨v', by rw [hu]; simp [asAddr, hrun], hr'⟩
            · cases hp
          refine ⟨v :: vs, by rw [List.mapM_cons, Sem.run_bind, show (resF a.tmps (.cell x t)).run P w = .ok v w from hv1]; simp only [Result.andThen_ok, Sem.run_bind, q1, Sem.run_pure], by simp [q2], fun i p' v' e1 e2 => ?_⟩
          cases i with
          | zero => simp at e1 e2; subst e1; subst e2; exact hv2
          | succ i => simp at e1 e2; exact q3 i p' v' e1 e2
        · cases hr
      · cases hr
    · cases hr

/-- THE EVALUATOR's WORD ON A FUNCTION IS ITS CONTRACT. -/
theorem fn_ok {f : FuncId} {fn : Func} {args : List PV} {r : PV} (hE : EnvOk P E) (hf : P.funcs[f]? = some fn) (hr : runFn P E L (LoopSem P) fn args s = some (r, ob, s')) (hob : ∀ X ∈ ob, X.holds) : Ok P f args r := by
  intro w Sa vs hGI hlt hlen hargs
  unfold runFn at hr
  split at hr
  · rename_i c hb
    split at hr
    · rename_i o T h ob1 s1 he
      split at hr
      · rename_i ho
        split at hr
        · rename_i ps hps
          split at hr
          · rename_i r1 vis hex
            cases hr
            refine calls_of_wp hf hb ?_
            have hst0 : St w Sa (args ++ List.replicate (fn.ntmps - args.length) (.sc Go.undef)) [] { tmps := vs.toArray ++ Array.replicate (fn.ntmps - vs.toArray.size) Go.undef, defers := [] } w := by
              refine ⟨Sa, [], ⟨Below.refl _ _, fun b hb => .inl hb, hlt, rfl, by simp, by simp, by simp, by simp, by simp, by simp, by simp, by simp⟩, ⟨by simp [hlen], fun t p ht => ?_⟩, rfl⟩
              simp only [Array.getD_eq_getD_getElem?]
              by_cases hta : t < args.length
              · rw [List.getElem?_append_left hta] at ht
                have htv : t < vs.toArray.size := by simpa [hlen] using hta
                rw [Array.getElem?_append_left htv]
                have hv : vs[t]? = some (vs[t]'(by simpa using htv)) := by
                  rw [List.getElem?_eq_getElem]
                rw [List.getElem?_toArray, hv]
                exact .st _ _ (hargs t p _ ht hv)
              · rw [List.getElem?_append_right (by omega)] at ht
                have ht2 := (List.getElem?_eq_some_iff.1 ht).1
                simp at ht2
                have hp : p = .sc Go.undef := by
                  rw [List.getElem?_replicate, if_pos ht2] at ht
                  exact (Option.some.inj ht).symm
                subst hp
                rw [Array.getElem?_append_right (by simp; omega), Array.getElem?_replicate]
                rw [if_pos (by simp; omega)]
                exact .st _ _ (.sc _)
            have fin : ∀ a' w', St w Sa T h a' w' → a'.defers = [] ∧ ∃ v, (results fn a'.tmps).run P w' = .ok v w' ∧ ∃ v', Ending.returned v = .returned v' ∧ Below w.heap.size w w' ∧ RepS w' (fun b => Sa b ∨ (w.heap.size ≤ b ∧ b < w'.heap.size)) r v' := by
              rintro a' w' ⟨S, m, hI, hT, hd⟩
              obtain ⟨us, q1, q2, q3⟩ := res_sound (P := P) hI hT hps
              have hres : (results fn a'.tmps).run P w' = .ok (if hh : us.toArray.size = 1 then us.toArray[0] else .tuple us.toArray) w' := by
                have hm : (fn.results.mapM (resF a'.tmps)).run P w' = .ok us.toArray w' := by
                  rw [Array.mapM_eq_mapM_toList]
                  simp only [Sem.run_map, q1, Result.andThen_ok]
                rw [results_eq, Sem.run_bind, hm]
                rfl
              refine ⟨hd, _, hres, _, rfl, hI.bel, ?_⟩
              have hone : Rep w' S m (oneP ps) (if hh : us.toArray.size = 1 then us.toArray[0] else .tuple us.toArray) := by
                by_cases h1 : us.toArray.size = 1
                · have hul : us.length = 1 := by simpa using h1
                  obtain ⟨u, rfl⟩ := List.length_eq_one_iff.1 hul
                  obtain ⟨p, rfl⟩ := List.length_eq_one_iff.1 (q2.trans hul)
                  exact q3 0 p u rfl rfl
                · rw [dif_neg h1]
                  have hne : us.length ≠ 1 := by simpa using h1
                  have : oneP ps = .tup ps := by
                    match ps, q2 with
                    | [], _ => rfl
                    | [p], q => exact absurd q.symm (by simpa using hne)
                    | _ :: _ :: _, _ => rfl
                  rw [this]
                  exact .tup _ _ (by simpa using q2) fun i c v e1 e2 => q3 i c v e1 (by simpa using e2)
              refine exp_rep (R := fun b => Sa b ∨ (w.heap.size ≤ b ∧ b < w'.heap.size)) hI (fun b hb => ?_) hex (fun q hq B b o' sz hB hst hm hr hlt' => ?_) (fun X hX => hob (.owe X) (List.mem_append_right _ (List.mem_map.2 ⟨X, hX, rfl⟩))) hone
              · rcases hI.sub b hb with h1 | h1
                · exact .inl h1
                · exact .inr ⟨h1, hI.lt b hb⟩
              · by_cases h0 : B.st = 0
                · exact .inr ⟨(hI.live q B b o' sz hB h0 hm hr).1, hlt'⟩
                · rcases hI.froz q B b o' sz hB (by omega) hm hr with hS | ⟨id', B', o2, z2, e1, e2, e3, er, _⟩
                  · rcases hI.sub b hS with h1 | h1
                    · exact .inl h1
                    · exact .inr ⟨h1, hI.lt b hS⟩
                  · exact .inr ⟨(hI.live id' B' b o2 z2 e1 e2 e3 er).1, hlt'⟩
            refine exec_sound hE hGI he (fun X hX => hob X (List.mem_append_left _ hX)) hst0 fun a' w' hSt' => ?_
            rcases ho with rfl | rfl
            · exact fin a' w' hSt'
            · exact fin a' w' hSt'
          · cases hr
        · cases hr
      · cases hr
    · cases hr
  · cases hr
end
end Go.PS
