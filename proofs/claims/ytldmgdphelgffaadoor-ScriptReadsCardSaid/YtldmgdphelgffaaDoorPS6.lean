/- Addresses of fields and elements, slice expressions, parts of values. -/
import Derived.Test.YtldmgdphelgffaaDoorPS5
namespace Go.PS
open Go.RowKit

section
variable {P : Program} {w0 w : World} {Sa S : Nat → Prop} {h h' : Hp} {m : Mp} {a : Act} {o : Oper} {T : List PV} {s s' : Scr} {ob : List Prop} {v : PV} {next : Act → World → Prop} {Q : Exit → Act → World → Prop}

theorem sc_inv {u x : Value} (hr : Rep w S m (.sc x) u) : u = x := by
  cases hr with
  | st _ _ h => cases h; rfl

theorem fieldAddr_ptr (hI : Inv w0 Sa h S m w) {t : TypeId} {x : Operand} {f id i off n : Nat} {fs : Array Field} {fd : Field} (hop : o.op = .fieldAddr t x f) (hu : P.underlying t = some (.struct fs)) (hf : fs[f]? = some fd)
    (hz : szP P fd.type = some (n + 1)) (hr : Rep w S m (.ptr id i off) (a.eval x)) (hn : ∀ v' w', Post w0 Sa h S m w (.ptr id i (off + fd.offset)) v' w' → next (a.put o.dst v') w') : o.wp P a w next Q := by
  obtain ⟨b, o', sz, hm, he⟩ := ptr_inv hr
  refine wp_value (v' := .pointer (some ⟨b, o' + i * sz + (off + fd.offset), none⟩)) ?_ (hn _ _ (post_same hI (.ptr _ _ _ b o' sz hm)))
  simp [execOp, hop, Instr.fieldAt, run_und hu, hf, Instr.sureAddr, he, fieldPlace, run_size hz, addr_add, Nat.add_assoc]

theorem fieldAddr_cel (hI : Inv w0 Sa h S m w) {t : TypeId} {x : Operand} {f off n : Nat} {cs : List PV} {fs : Array Field} {fd : Field} (hop : o.op = .fieldAddr t x f) (hu : P.underlying t = some (.struct fs)) (hf : fs[f]? = some fd)
    (hz : szP P fd.type = some (n + 1)) (hr : Rep w S m (.cel cs off) (a.eval x)) (hn : ∀ v' w', Post w0 Sa h S m w (.cel cs (off + fd.offset)) v' w' → next (a.put o.dst v') w') : o.wp P a w next Q := by
  obtain ⟨b, o', he, _, c, et, fz, hS, hb, hl, hc⟩ := cel_inv hr
  refine wp_value (v' := .pointer (some ⟨b, o' + (off + fd.offset), none⟩)) ?_ (hn _ _ (post_same hI (.cel _ _ b o' c et fz hS hb hl hc)))
  simp [execOp, hop, Instr.fieldAt, run_und hu, hf, Instr.sureAddr, he, fieldPlace, run_size hz, addr_add, Nat.add_assoc]

theorem ro_inv {es : List (List PV)} {u : Value} (hr : Rep w S m (.ro es) u) : (es = [] ∧ ∃ ad cap, u = .slice ad 0 cap) ∨
    ∃ b o' cap sz c et fz, u = .slice (some ⟨b, o', none⟩) es.length cap ∧ S b ∧ w.heap[b]? = some (.cells c et fz) ∧ (∀ e ∈ es, e.length = sz) ∧ o' + es.length * sz ≤ c.size ∧ es.length ≤ cap ∧
      ∀ (i j : Nat) e p v, es[i]? = some e → e[j]? = some p → c[o' + i * sz + j]? = some v → RepS w S p v := by
  cases hr with
  | st _ _ h => cases h with
    | ro0 ad cap => exact .inl ⟨rfl, ad, cap, rfl⟩
    | ro _ b o' cap sz c et fz hS hb hz hn hcap hc => exact .inr ⟨b, o', cap, sz, c, et, fz, rfl, hS, hb, hz, hn, hcap, hc⟩

theorem rf_inv {n : Nat} {f : Nat → List PV} {u : Value} (hr : Rep w S m (.rf n f) u) : Rep w S m (.ro ((List.range n).map f)) u := by
  cases hr with
  | st _ _ h => cases h with
    | rf _ _ _ h => exact .st _ _ h

theorem own_inv {id off len : Nat} {u : Value} (hr : Rep w S m (.own id off len) u) : (len = 0 ∧ ∃ ad, u = .slice ad 0 0) ∨
    ∃ b o' sz cap c et, u = .slice (some ⟨b, o' + off * sz, none⟩) len cap ∧ m[id]? = some (b, o', sz) ∧ 0 < sz ∧ w.heap[b]? = some (.cells c et (0, 0)) ∧ len ≤ cap ∧ o' + (off + cap) * sz ≤ c.size := by
  cases hr with
  | st _ _ h => cases h
  | own _ _ _ cap b o' sz c et hm hz hb hcap hn => exact .inr ⟨b, o', sz, cap, c, et, rfl, hm, hz, hb, hcap, hn⟩
  | own0 _ _ ad => exact .inl ⟨rfl, ad, rfl⟩

theorem who_inv {id len : Nat} {u : Value} (hr : Rep w S m (.who id len) u) : Rep w S m (.own id 0 len) u := by
  cases hr with
  | st _ _ h => cases h
  | who _ _ _ h => exact h
theorem unwho_rep {p : PV} {u : Value} (hr : Rep w S m p u) : Rep w S m (unwho p) u := by
  unfold unwho
  split
  · exact who_inv hr
  · exact hr

theorem nul_inv {u : Value} (hr : Rep w S m .nul u) : ∃ ad, u = .slice ad 0 0 := by
  cases hr with
  | st _ _ h => cases h with
    | nul ad => exact ⟨ad, rfl⟩

theorem elemSz_inv {t : TypeId} {z : Nat} (hz : elemSz P t = some z) : ∃ e, P.underlying t = some (.slice e) ∧ szP P e = some z := by
  unfold elemSz at hz
  split at hz
  · rename_i e hu; exact ⟨e, hu, hz⟩
  · cases hz

theorem row_le {i n sz : Nat} (hi : i < n) : i * sz + sz ≤ n * sz := by
  have := Nat.mul_le_mul_right sz (show i + 1 ≤ n by omega)
  rw [Nat.add_mul] at this; omega

theorem indexAddr_sound (hI : Inv w0 Sa h S m w) {t : TypeId} {x y : Operand} {p q : PV} {k : IntKind} {n : Int} (hop : o.op = .indexAddr t x y) (hy : a.eval y = .int k n) (hr : Rep w S m p (a.eval x))
    (hq : addrP P h t n p = some (q, ob)) (hob : ∀ X ∈ ob, X) (hn : ∀ v' w', Post w0 Sa h S m w q v' w' → next (a.put o.dst v') w') : o.wp P a w next Q := by
  unfold addrP at hq
  split at hq
  · rename_i es
    split at hq
    · rename_i z hz
      cases hq
      have h1 : 0 ≤ n := hob _ (by simp)
      have h2 : n < es.length := hob _ (by simp)
      have h3 : Elems z es := elems_of (hob _ (by simp))
      obtain ⟨e, hu, hze⟩ := elemSz_inv hz
      obtain ⟨k', rfl⟩ := Int.eq_ofNat_of_zero_le h1
      have hk : k' < es.length := by omega
      rcases ro_inv hr with ⟨rfl, _⟩ | ⟨b, o', cap, sz, c, et, fz, he, hS, hb, hzz, hl, hcap, hc⟩
      · simp at hk
      · have hsz : sz = z := by rw [← hzz es[k'] (List.getElem_mem hk), (h3 es[k'] (List.getElem_mem hk)).1]
        subst hsz
        have hget : es[k']? = some es[k'] := by simp [hk]
        refine wp_value (v' := .pointer (some ⟨b, o' + k' * sz, none⟩)) ?_ (hn _ _ (post_same hI ?_))
        · simp [execOp, hop, Instr.indexAt, hy, asIntOf, run_und hu, he, run_size hze, hk, addr_add]
        · have hg : es.getD (k' : Int).toNat [] = es[k'] := by simp [List.getD, hk]
          rw [hg]
          have hfit : o' + k' * sz + es[k'].length ≤ c.size := by
            rw [hzz es[k'] (List.getElem_mem hk)]
            have := row_le (sz := sz) hk
            omega
          exact Rep.cel (m := m) es[k'] 0 b (o' + k' * sz) c et fz hS hb hfit fun j p v q1 q2 => hc k' j es[k'] p v hget q1 q2
    · cases hq
  · rename_i n' f
    split at hq
    · rename_i z hz
      split at hq
      · rename_i hfz
        cases hq
        have h1 : 0 ≤ n := hob _ (by simp)
        have h2 : n < n' := hob _ (by simp)
        obtain ⟨e, hu, hze⟩ := elemSz_inv hz
        obtain ⟨k', rfl⟩ := Int.eq_ofNat_of_zero_le h1
        have hk : k' < n' := by omega
        rcases ro_inv (rf_inv hr) with ⟨hnil, _⟩ | ⟨b, o', cap, sz, c, et, fz, he, hS, hb, hzz, hl, hcap, hc⟩
        · have := congrArg List.length hnil; simp at this; omega
        · have hget : ((List.range n').map f)[k']? = some (f k') := by simp [hk]
          simp only [Int.toNat_natCast] at hfz
          have hsz : sz = z := by rw [← hzz (f k') (List.mem_of_getElem? hget), hfz]
          subst hsz
          simp only [List.length_map, List.length_range] at he hl hcap
          refine wp_value (v' := .pointer (some ⟨b, o' + k' * sz, none⟩)) ?_ (hn _ _ (post_same hI ?_))
          · simp [execOp, hop, Instr.indexAt, hy, asIntOf, run_und hu, he, run_size hze, hk, addr_add]
          · have hfit : o' + k' * sz + (f k').length ≤ c.size := by
              rw [hfz]
              have := row_le (sz := sz) hk
              omega
            simp only [Int.toNat_natCast]
            exact Rep.cel (m := m) (f k') 0 b (o' + k' * sz) c et fz hS hb hfit fun j p v q1 q2 => hc k' j (f k') p v hget q1 q2
      · cases hq
    · cases hq
  · rename_i id off len
    split at hq
    · rename_i z B hz hB
      split at hq
      · rename_i hBz
        cases hq
        have h1 : 0 ≤ n := hob _ (by simp)
        have h2 : n < len := hob _ (by simp)
        obtain ⟨e, hu, hze⟩ := elemSz_inv hz
        obtain ⟨k', rfl⟩ := Int.eq_ofNat_of_zero_le h1
        have hk : k' < len := by omega
        rcases own_inv hr with ⟨rfl, _⟩ | ⟨b, o', sz, cap, c, et, he, hm, hz0, hb, hcap, hl⟩
        · simp at hk
        · have hsz : B.sz = sz := hI.msz id B b o' sz hB hm (.inr hz0)
          have hzz : z = sz := by omega
          subst hzz
          refine wp_value (v' := .pointer (some ⟨b, o' + (off + k') * z + 0, none⟩)) ?_ (hn _ _ (post_same hI (.ptr _ _ _ b o' z hm)))
          simp [execOp, hop, Instr.indexAt, hy, asIntOf, run_und hu, he, run_size hze, hk, addr_add, Nat.add_mul, Nat.add_assoc]
      · cases hq
    · cases hq
  · rename_i id k2 off
    split at hq
    · rename_i n2 e hu
      split at hq
      · rename_i z hze
        cases hq
        have h1 : 0 ≤ n := hob _ (by simp)
        have h2 : n < n2 := hob _ (by simp)
        obtain ⟨k', rfl⟩ := Int.eq_ofNat_of_zero_le h1
        have hk : k' < n2 := by omega
        obtain ⟨b, o', sz, hm, he⟩ := ptr_inv hr
        refine wp_value (v' := .pointer (some ⟨b, o' + k2 * sz + (off + k' * z), none⟩)) ?_ (hn _ _ (post_same hI (.ptr _ _ _ b o' sz hm)))
        simp [execOp, hop, Instr.indexAt, hy, asIntOf, run_und hu, he, Instr.sureAddr, run_size hze, hk, addr_add, Nat.add_assoc]
      · cases hq
    · cases hq
  · rename_i cs off
    split at hq
    · rename_i n2 e hu
      split at hq
      · rename_i z hze
        cases hq
        have h1 : 0 ≤ n := hob _ (by simp)
        have h2 : n < n2 := hob _ (by simp)
        obtain ⟨k', rfl⟩ := Int.eq_ofNat_of_zero_le h1
        have hk : k' < n2 := by omega
        obtain ⟨b, o', he, _, c, et, fz, hS, hb, hl, hc⟩ := cel_inv hr
        refine wp_value (v' := .pointer (some ⟨b, o' + (off + k' * z), none⟩)) ?_ (hn _ _ (post_same hI (.cel _ _ b o' c et fz hS hb hl hc)))
        simp [execOp, hop, Instr.indexAt, hy, asIntOf, run_und hu, he, Instr.sureAddr, run_size hze, hk, addr_add, Nat.add_assoc]
      · cases hq
    · cases hq
  · cases hq

/-- The bounds of a slice expression without a third one. -/
theorem run_bounds {T : List PV} {isS : Bool} {len cap : Nat} {lo hi : Option Operand} {l r : Int} (hlo : ∀ x ∈ lo, ∀ p, opnd T x = some p → Rep w S m p (a.eval x)) (hhi : ∀ x ∈ hi, ∀ p, opnd T x = some p → Rep w S m p (a.eval x))
    (e1 : boundP T 0 lo = some l) (e2 : boundP T len hi = some r) (h0 : 0 ≤ l) (h1 : l ≤ r) (h2 : r ≤ len) (h3 : len ≤ cap) :
    (Instr.sliceBounds isS len cap (lo.map a.eval) (hi.map a.eval) none).run P w = .ok (l.toNat, r.toNat, cap) w := by
  have key : ∀ {x : Operand} {d : Nat} {n : Int}, (∀ p, opnd T x = some p → Rep w S m p (a.eval x)) → boundP T d (some x) = some n → ∃ k, a.eval x = .int k n := by
    intro x d n hx hb
    simp only [boundP] at hb
    split at hb
    · rename_i k n' hp
      cases hb
      exact ⟨k, sc_inv (hx _ hp)⟩
    · cases hb
  have hb : ∀ {k : IntKind} {n : Int} {y : Nat} {code : BoundsCode}, 0 ≤ n → n ≤ y → (Instr.sliceBound (.int k n) y code).run P w = .ok n.toNat w := by
    intro k n y code q1 q2
    simp [Instr.sliceBound, asIntOf, q1, q2]
  unfold Instr.sliceBounds
  cases hi with
  | none =>
    simp [boundP] at e2
    cases lo with
    | none => simp [boundP] at e1; subst e1; subst e2; simp
    | some x =>
      obtain ⟨k, hx⟩ := key (fun p => hlo x (by simp) p) e1
      subst e2
      simp [hx, hb h0 (show l ≤ (len : Int) by omega)]
  | some y =>
    obtain ⟨k, hy⟩ := key (fun p => hhi y (by simp) p) e2
    have hr0 : 0 ≤ r := by omega
    cases lo with
    | none =>
      simp [boundP] at e1
      subst e1
      simp [hy, hb hr0 (show r ≤ (cap : Int) by omega)]
    | some x =>
      obtain ⟨k', hx⟩ := key (fun p => hlo x (by simp) p) e1
      simp [hy, hb hr0 (show r ≤ (cap : Int) by omega), hx, hb h0 (show l ≤ (r.toNat : Int) by omega)]

theorem slice_sound (hI : Inv w0 Sa h S m w) {t : TypeId} {x : Operand} {lo hi mx : Option Operand} {p q : PV} (hop : o.op = .slice t x lo hi mx) (hr : Rep w S m p (a.eval x))
    (hlo : ∀ x ∈ lo, ∀ p, opnd T x = some p → Rep w S m p (a.eval x)) (hhi : ∀ x ∈ hi, ∀ p, opnd T x = some p → Rep w S m p (a.eval x))
    (hq : sliceP P T h t p lo hi mx = some (q, ob)) (hob : ∀ X ∈ ob, X) (hn : ∀ v' w', Post w0 Sa h S m w q v' w' → next (a.put o.dst v') w') : o.wp P a w next Q := by
  unfold sliceP at hq
  split at hq
  · rename_i b
    split at hq
    · rename_i l r hu e1 e2
      cases hq
      have h0 : 0 ≤ l := hob _ (by simp)
      have h1 : l ≤ r := hob _ (by simp)
      have h2 : r ≤ b.size := hob _ (by simp)
      have hx := sc_inv hr
      have hb := run_bounds (P := P) (isS := false) (cap := b.size) hlo hhi e1 e2 h0 h1 h2 (Nat.le_refl _)
      refine wp_value (v' := .string (b.extract l.toNat r.toNat)) ?_ (hn _ _ (post_same hI (.st _ _ (.sc _))))
      simp [execOp, hop, Instr.sliceAt, Instr.slice, run_und hu, hx, hb]
    · cases hq
  · split at hq
    · rename_i z l r hz e1 e2
      cases hq
      have h0 : l = 0 := hob _ (by simp)
      have h1 : r = 0 := hob _ (by simp)
      subst h0; subst h1
      obtain ⟨e, hu, hze⟩ := elemSz_inv hz
      obtain ⟨ad, hx⟩ : ∃ ad, a.eval x = .slice ad 0 0 := nul_inv hr
      have hb := run_bounds (P := P) (isS := true) (len := 0) (cap := 0) hlo hhi e1 e2 (by omega) (by omega) (by omega) (Nat.le_refl _)
      refine wp_value (v' := .slice ad 0 0) ?_ (hn _ _ (post_same hI (.st _ _ (.nul _))))
      simp [execOp, hop, Instr.sliceAt, Instr.slice, run_und hu, hx, hb, run_size hze]
    · cases hq
  · rename_i es
    split at hq
    · rename_i z l r hz e1 e2
      cases hq
      have h0 : 0 ≤ l := hob _ (by simp)
      have h1 : l ≤ r := hob _ (by simp)
      have h2 : r ≤ es.length := hob _ (by simp)
      have h3 : Elems z es := elems_of (hob _ (by simp))
      obtain ⟨e, hu, hze⟩ := elemSz_inv hz
      obtain ⟨l', rfl⟩ := Int.eq_ofNat_of_zero_le h0
      obtain ⟨r', rfl⟩ := Int.eq_ofNat_of_zero_le (show 0 ≤ r by omega)
      rcases ro_inv hr with ⟨rfl, ad, cap, hx⟩ | ⟨b, o', cap, sz, c, et, fz, hx, hS, hb, hzz, hl, hcap, hc⟩
      · have hb := run_bounds (P := P) (isS := true) (len := 0) (cap := cap) hlo hhi e1 e2 h0 h1 h2 (Nat.zero_le _)
        have hr0 : r' = 0 := by simpa using h2
        have hl0 : l' = 0 := by omega
        subst hr0; subst hl0
        refine wp_value (v' := .slice (if cap = 0 then ad else ad.map (·.add 0)) 0 cap) ?_ (hn _ _ (post_same hI (.st _ _ ?_)))
        · simp [execOp, hop, Instr.sliceAt, Instr.slice, run_und hu, hx, hb, run_size hze]
        · simpa using RepS.ro0 (w := w) (S := S) _ _
      · have hb' := run_bounds (P := P) (isS := true) (len := es.length) (cap := cap) hlo hhi e1 e2 h0 h1 h2 hcap
        refine wp_value (v' := .slice (if cap = l' then some ⟨b, o', none⟩ else some ⟨b, o' + l' * z, none⟩) (r' - l') (cap - l')) ?_ (hn _ _ (post_same hI (.st _ _ ?_)))
        · simp [execOp, hop, Instr.sliceAt, Instr.slice, run_und hu, hx, hb', run_size hze, addr_add]
        · by_cases hlr : l' = r'
          · subst hlr
            simpa using RepS.ro0 (w := w) (S := S) _ _
          · have hl2 : l' < r' := by omega
            have hr2 : r' ≤ es.length := by omega
            have hne : ¬ cap = l' := by omega
            rw [if_neg hne]
            have hsz : sz = z := by rw [← hzz es[l'] (List.getElem_mem (by omega)), (h3 es[l'] (List.getElem_mem (by omega))).1]
            subst hsz
            have hlen : ((es.drop l').take (r' - l')).length = r' - l' := by simp; omega
            have hmul : (r' - l') * sz + l' * sz = r' * sz := by rw [← Nat.add_mul]; congr 1; omega
            have hmul2 : r' * sz ≤ es.length * sz := Nat.mul_le_mul_right _ hr2
            have := RepS.ro (w := w) (S := S) ((es.drop l').take (r' - l')) b (o' + l' * sz) (cap - l') sz c et fz hS hb (fun e he => hzz e (List.mem_of_mem_drop (List.mem_of_mem_take he)))
              (by rw [hlen]; omega) (by rw [hlen]; omega) (fun i j e p v q1 q2 q3 => by
                have hi : i < r' - l' := by have := (List.getElem?_eq_some_iff.1 q1).1; omega
                rw [List.getElem?_take_of_lt hi, List.getElem?_drop] at q1
                refine hc (l' + i) j e p v q1 q2 ?_
                rw [← q3]; congr 1; rw [Nat.add_mul]; omega)
            rw [hlen] at this
            simpa using this
    · cases hq
  · rename_i n f
    split at hq
    · rename_i z l r hz e1 e2
      split at hq
      · rename_i hfz
        cases hq
        have h0 : 0 ≤ l := hob _ (by simp)
        have h1 : l ≤ r := hob _ (by simp)
        have h2 : r ≤ n := hob _ (by simp)
        obtain ⟨e, hu, hze⟩ := elemSz_inv hz
        obtain ⟨l', rfl⟩ := Int.eq_ofNat_of_zero_le h0
        obtain ⟨r', rfl⟩ := Int.eq_ofNat_of_zero_le (show 0 ≤ r by omega)
        simp only [Int.toNat_natCast] at hfz
        rcases ro_inv (rf_inv hr) with ⟨hnil, ad, cap, hx⟩ | ⟨b, o', cap, sz, c, et, fz, hx, hS, hb, hzz, hl, hcap, hc⟩
        · have hn0 : n = 0 := by have := congrArg List.length hnil; simpa using this
          subst hn0
          have hb := run_bounds (P := P) (isS := true) (len := 0) (cap := cap) hlo hhi e1 e2 h0 h1 h2 (Nat.zero_le _)
          have hr0 : r' = 0 := by simpa using h2
          have hl0 : l' = 0 := by omega
          subst hr0; subst hl0
          refine wp_value (v' := .slice (if cap = 0 then ad else ad.map (·.add 0)) 0 cap) ?_ (hn _ _ (post_same hI (.st _ _ (.rf _ _ _ ?_))))
          · simp [execOp, hop, Instr.sliceAt, Instr.slice, run_und hu, hx, hb, run_size hze]
          · simpa using RepS.ro0 (w := w) (S := S) _ _
        · simp only [List.length_map, List.length_range] at hx hl hcap
          have hb' := run_bounds (P := P) (isS := true) (len := n) (cap := cap) hlo hhi e1 e2 h0 h1 h2 hcap
          refine wp_value (v' := .slice (if cap = l' then some ⟨b, o', none⟩ else some ⟨b, o' + l' * z, none⟩) (r' - l') (cap - l')) ?_ (hn _ _ (post_same hI (.st _ _ (.rf _ _ _ ?_))))
          · simp [execOp, hop, Instr.sliceAt, Instr.slice, run_und hu, hx, hb', run_size hze, addr_add]
          · by_cases hlr : l' = r'
            · subst hlr
              simpa using RepS.ro0 (w := w) (S := S) _ _
            · have hl2 : l' < r' := by omega
              have hr2 : r' ≤ n := by omega
              have hne : ¬ cap = l' := by omega
              rw [if_neg hne]
              have hget : ((List.range n).map f)[l']? = some (f l') := by
                have : l' < n := by omega
                simp [this]
              have hsz : sz = z := by rw [← hzz (f l') (List.mem_of_getElem? hget), hfz]
              subst hsz
              simp only [Int.toNat_natCast]
              have hlen : ((List.range (r' - l')).map fun i => f (l' + i)).length = r' - l' := by simp
              have hmul : (r' - l') * sz + l' * sz = r' * sz := by rw [← Nat.add_mul]; congr 1; omega
              have hmul2 : r' * sz ≤ n * sz := Nat.mul_le_mul_right _ hr2
              have hel : ∀ (i : Nat) e, ((List.range (r' - l')).map fun i => f (l' + i))[i]? = some e → i < r' - l' ∧ ((List.range n).map f)[l' + i]? = some e := by
                intro i e hi
                have hil : i < r' - l' := by have := (List.getElem?_eq_some_iff.1 hi).1; rwa [hlen] at this
                simp [hil] at hi
                subst hi
                have : l' + i < n := by omega
                exact ⟨hil, by simp [this]⟩
              have := RepS.ro (w := w) (S := S) ((List.range (r' - l')).map fun i => f (l' + i)) b (o' + l' * sz) (cap - l') sz c et fz hS hb (fun e he => by
                  obtain ⟨i, hi⟩ := List.getElem?_of_mem he
                  exact hzz e (List.mem_of_getElem? (hel i e hi).2))
                (by rw [hlen]; omega) (by rw [hlen]; omega) (fun i j e p v q1 q2 q3 => by
                  refine hc (l' + i) j e p v (hel i e q1).2 q2 ?_
                  rw [← q3]; congr 1; rw [Nat.add_mul]; omega)
              rw [hlen] at this
              simpa using this
      · cases hq
    · cases hq
  · rename_i id off len
    split at hq
    · rename_i z l r hz e1 e2
      split at hq
      · rename_i B hB
        split at hq
        · rename_i hBz
          cases hq
          have h0 : 0 ≤ l := hob _ (by simp)
          have h1 : l ≤ r := hob _ (by simp)
          have h2 : r ≤ len := hob _ (by simp)
          obtain ⟨e, hu, hze⟩ := elemSz_inv hz
          obtain ⟨l', rfl⟩ := Int.eq_ofNat_of_zero_le h0
          obtain ⟨r', rfl⟩ := Int.eq_ofNat_of_zero_le (show 0 ≤ r by omega)
          rcases own_inv hr with ⟨rfl, ad, hx⟩ | ⟨b, o', sz, cap, c, et, hx, hm, hz0, hb, hcap, hl⟩
          · have hb := run_bounds (P := P) (isS := true) (len := 0) (cap := 0) hlo hhi e1 e2 h0 h1 h2 (Nat.zero_le _)
            have hr0 : r' = 0 := by simpa using h2
            have hl0 : l' = 0 := by omega
            subst hr0; subst hl0
            refine wp_value (v' := .slice ad 0 0) ?_ (hn _ _ (post_same hI ?_))
            · simp [execOp, hop, Instr.sliceAt, Instr.slice, run_und hu, hx, hb, run_size hze]
            · exact Rep.own0 _ _ _
          · have hb' := run_bounds (P := P) (isS := true) (len := len) (cap := cap) hlo hhi e1 e2 h0 h1 h2 hcap
            have hsz : B.sz = sz := hI.msz id B b o' sz hB hm (.inr hz0)
            have hzz : z = sz := by omega
            subst hzz
            refine wp_value (v' := .slice (if cap = l' then some ⟨b, o' + off * z, none⟩ else some ⟨b, o' + off * z + l' * z, none⟩) (r' - l') (cap - l')) ?_ (hn _ _ (post_same hI ?_))
            · simp [execOp, hop, Instr.sliceAt, Instr.slice, run_und hu, hx, hb', run_size hze, addr_add]
            · by_cases hlc : cap = l'
              · have e1 : r' - l' = 0 := by omega
                have e2 : cap - l' = 0 := by omega
                have e3 : (r' : Int).toNat - (l' : Int).toNat = 0 := by omega
                rw [e1, e2, e3]
                exact Rep.own0 _ _ _
              · rw [if_neg hlc]
                have := Rep.own (w := w) (S := S) (m := m) id (off + l') (r' - l') (cap - l') b o' z c et hm hz0 hb (by omega) (by
                  have : off + l' + (cap - l') = off + cap := by omega
                  rw [this]; exact hl)
                rw [Nat.add_mul, ← Nat.add_assoc] at this
                simpa using this
        · cases hq
      · cases hq
    · cases hq
  · cases hq
end
end Go.PS
