/- Calls; then every operation of the evaluator. -/
import Derived.Test.YtldmgdphelgffaaDoorPS10
namespace Go.PS
open Go.RowKit

section
variable {E : Env} {P : Program} {w0 w : World} {Sa S : Nat → Prop} {h h' : Hp} {m : Mp} {a : Act} {o : Oper} {T : List PV} {s s' : Scr} {ob : List Prop} {v : PV} {next : Act → World → Prop} {Q : Exit → Act → World → Prop}

theorem expL_get {f : PV → Option (PV × List Nat)} : ∀ {cs ds : List PV} {vis : List Nat}, expL f cs = some (ds, vis) → ds.length = cs.length ∧
    ∀ (i : Nat) d, ds[i]? = some d → ∃ c v, cs[i]? = some c ∧ f c = some (d, v) ∧ ∀ q ∈ v, q ∈ vis
  | [], ds, vis, he => by simp [expL] at he; obtain ⟨rfl, rfl⟩ := he; simp
  | c :: cs, ds, vis, he => by
    simp only [expL] at he
    split at he
    · rename_i d v hd
      split at he
      · rename_i ds' vs hds
        cases he
        obtain ⟨h1, h2⟩ := expL_get hds
        refine ⟨by simp [h1], fun i d' hi => ?_⟩
        cases i with
        | zero => simp at hi; subst hi; exact ⟨c, v, rfl, hd, fun q hq => List.mem_append_left _ hq⟩
        | succ i =>
          simp at hi
          obtain ⟨c', v', q1, q2, q3⟩ := h2 i d' hi
          exact ⟨c', v', by simpa using q1, q2, fun q hq => List.mem_append_right _ (q3 q hq)⟩
      · cases he
    · cases he

theorem expLL_get {f : PV → Option (PV × List Nat)} : ∀ {cs ds : List (List PV)} {vis : List Nat}, expLL f cs = some (ds, vis) → ds.length = cs.length ∧
    ∀ (i : Nat) d, ds[i]? = some d → ∃ c v, cs[i]? = some c ∧ expL f c = some (d, v) ∧ ∀ q ∈ v, q ∈ vis
  | [], ds, vis, he => by simp [expLL] at he; obtain ⟨rfl, rfl⟩ := he; simp
  | c :: cs, ds, vis, he => by
    simp only [expLL] at he
    split at he
    · rename_i d v hd
      split at he
      · rename_i ds' vs hds
        cases he
        obtain ⟨h1, h2⟩ := expLL_get hds
        refine ⟨by simp [h1], fun i d' hi => ?_⟩
        cases i with
        | zero => simp at hi; subst hi; exact ⟨c, v, rfl, hd, fun q hq => List.mem_append_left _ hq⟩
        | succ i =>
          simp at hi
          obtain ⟨c', v', q1, q2, q3⟩ := h2 i d' hi
          exact ⟨c', v', by simpa using q1, q2, fun q hq => List.mem_append_right _ (q3 q hq)⟩
      · cases he
    · cases he

theorem range_getD {α : Type} (l : List α) (d : α) : ((List.range l.length).map fun i => l.getD i d) = l := by
  apply List.ext_getElem?
  intro i
  by_cases hi : i < l.length
  · simp [hi, List.getD]
  · simp [hi]

theorem range_sub {l : List (List PV)} {off len : Nat} (h : off + len ≤ l.length) : ((List.range len).map fun i => l.getD (off + i) []) = (l.drop off).take len := by
  apply List.ext_getElem?
  intro i
  by_cases hi : i < len
  · rw [List.getElem?_take_of_lt hi, List.getElem?_drop]
    have : off + i < l.length := by omega
    simp [hi, List.getD, this]
  · rw [List.getElem?_eq_none (by simp; omega), List.getElem?_eq_none (by simp; omega)]

theorem exp_rep (hI : Inv w0 Sa h S m w) {R : Nat → Prop} (hSR : ∀ b, S b → R b) : ∀ {n : Nat} {p p' : PV} {vis : List Nat} {u : Value}, exp h n p = some (p', vis) → (∀ q ∈ vis, ∀ B b o sz, h[q]? = some B → B.st ≤ 1 → m[q]? = some (b, o, sz) → Rl B.es sz → b < w.heap.size → R b) → (∀ X ∈ expO h n p, X) → Rep w S m p u → RepS w R p' u := by
  intro n
  induction n with
  | zero => intro p p' vis u he; simp [exp] at he
  | succ n ih =>
    intro p p' vis u he hv hO hr
    have lst : ∀ {cs ds : List PV} {vis' : List Nat} {vs : Array Value}, expL (exp h n) cs = some (ds, vis') → (∀ X ∈ cs.flatMap (expO h n), X) → (∀ q ∈ vis', q ∈ vis) → cs.length = vs.size → (∀ (i : Nat) c v, cs[i]? = some c → vs[i]? = some v → Rep w S m c v) →
        ds.length = vs.size ∧ ∀ (i : Nat) c v, ds[i]? = some c → vs[i]? = some v → RepS w R c v := by
      intro cs ds vis' vs hL hO' hsub hl hc
      obtain ⟨h1, h2⟩ := expL_get hL
      refine ⟨by omega, fun i d v q1 q2 => ?_⟩
      obtain ⟨c, v', e1, e2, e3⟩ := h2 i d q1
      exact ih e2 (fun q hq => hv q (hsub q (e3 q hq))) (fun X hX => hO' X (List.mem_flatMap.2 ⟨c, List.mem_of_getElem? e1, hX⟩)) (hc i c v e1 q2)
    unfold exp at he
    split at he
    · cases he; rw [sc_inv hr]; exact .sc _
    · cases he; rw [bit_inv hr]; exact .sc _
    · cases he; obtain ⟨ad, rfl⟩ := nul_inv hr; exact .rf _ _ _ (.ro0 _ _)
    · cases he
      refine .rf _ _ _ ?_
      rw [range_getD]
      cases hr with
      | st _ _ h => exact h.later hSR fun _ _ => rfl
    · cases he
      cases hr with
      | st _ _ h => exact h.later hSR fun _ _ => rfl
    · split at he
      · rename_i l v hL
        cases he
        obtain ⟨vs, rfl, hl, hc⟩ := agg_inv hr
        obtain ⟨q1, q2⟩ := lst hL (by simpa only [expO] using hO) (fun _ h => h) hl hc
        exact .agg _ _ q1 q2
      · cases he
    · split at he
      · rename_i l v hL
        cases he
        obtain ⟨vs, rfl, hl, hc⟩ := tup_inv hr
        obtain ⟨q1, q2⟩ := lst hL (by simpa only [expO] using hO) (fun _ h => h) hl hc
        exact .tup _ _ q1 q2
      · cases he
    · rename_i id off len
      split at he
      case h_2 => cases he
      rename_i B0 hB0
      split at he
      · -- a list that is not written out
        rename_i hsy
        split at he
        · rename_i hst
          cases he
          have hlen : off + len ≤ B0.es.length := hO _ (by simp only [expO, hB0, hsy]; exact List.mem_cons_self)
          have hstab := hI.syms id B0 hB0 hsy
          refine .rf _ _ _ ?_
          rw [range_sub hlen]
          have htl : ((B0.es.drop off).take len).length = len := by simp; omega
          rcases own_inv hr with ⟨rfl, ad, rfl⟩ | ⟨b, o', sz, cap, c, et, rfl, hm, hz0, hb, hcap, hl⟩
          · rw [List.take_zero]
            exact .ro0 _ _
          · obtain ⟨c1, et1, e1, e2, e3, e4⟩ := hI.blk id B0 b o' sz hB0 hst hm (.inr hz0)
            rw [hb] at e1
            cases e1
            have hmul : (off + len) * sz = off * sz + len * sz := Nat.add_mul _ _ _
            have hle : (off + len) * sz ≤ B0.es.length * sz := Nat.mul_le_mul_right _ hlen
            have := RepS.ro (w := w) (S := R) ((B0.es.drop off).take len) b (o' + off * sz) cap sz c et (0, 0) (hv id (by simp) B0 b o' sz hB0 hst hm (.inr hz0) (lt_of_block hb)) hb
              (fun e he => e3 e (List.mem_of_mem_drop (List.mem_of_mem_take he))) (by rw [htl]; omega) (by omega) (fun i j e p v q1 q2 q3 => by
              have hi : i < len := by have := (List.getElem?_eq_some_iff.1 q1).1; omega
              rw [List.getElem?_take_of_lt hi, List.getElem?_drop] at q1
              have hs := List.all_eq_true.1 (hstab e (List.mem_of_getElem? q1)) p (List.mem_of_getElem? q2)
              refine (stab_rep (e4 (off + i) j e p v q1 q2 ?_) hs).later hSR fun _ _ => rfl
              rw [← q3]; congr 1; rw [Nat.add_mul]; omega)
            rw [htl] at this
            exact this
        · cases he
      rename_i hsy
      split at he
      · rename_i es hes
        split at he
        · rename_i l v hL
          cases he
          have hO' : ∀ e ∈ es, ∀ X ∈ e.flatMap (expO h n), X := fun e he X hX => hO X (by simp only [expO, hB0, hsy, hes]; exact List.mem_flatMap.2 ⟨e, he, hX⟩)
          refine .rf _ _ _ ?_
          rw [range_getD]
          simp only [elemsOf] at hes
          split at hes
          · rename_i B hB
            split at hes
            · rename_i hcond
              cases hes
              obtain ⟨h1, h2⟩ := expLL_get hL
              have htl : ((B.es.drop off).take len).length = len := by simp; omega
              rcases own_inv hr with ⟨rfl, ad, rfl⟩ | ⟨b, o', sz, cap, c, et, rfl, hm, hz0, hb, hcap, hl⟩
              · have : l = [] := List.eq_nil_of_length_eq_zero (by rw [h1]; simp)
                subst this
                exact .ro0 _ _
              · by_cases h0 : len = 0
                · subst h0
                  have : l = [] := List.eq_nil_of_length_eq_zero (by rw [h1]; simp)
                  subst this
                  exact .ro0 _ _
                · obtain ⟨c1, et1, e1, e2, e3, e4⟩ := hI.blk id B b o' sz hB hcond.1 hm (.inr hz0)
                  rw [hb] at e1
                  cases e1
                  have hll : l.length = len := by rw [h1, htl]
                  have hmul : (off + len) * sz = off * sz + len * sz := Nat.add_mul _ _ _
                  have hle : (off + len) * sz ≤ B.es.length * sz := Nat.mul_le_mul_right _ hcond.2
                  have key : ∀ (i : Nat) d, l[i]? = some d → ∃ e v, B.es[off + i]? = some e ∧ expL (exp h n) e = some (d, v) ∧ ∀ q ∈ v, q ∈ id :: v := by
                    intro i d hi
                    obtain ⟨e, v', q1, q2, _⟩ := h2 i d hi
                    have hil : i < len := by have := (List.getElem?_eq_some_iff.1 hi).1; omega
                    rw [List.getElem?_take_of_lt hil, List.getElem?_drop] at q1
                    exact ⟨e, v', q1, q2, fun q hq => List.mem_cons_of_mem _ hq⟩
                  have := RepS.ro (w := w) (S := R) l b (o' + off * sz) cap sz c et (0, 0) (hv id (by simp) B b o' sz hB hcond.1 hm (.inr hz0) (lt_of_block hb)) hb (by
                      intro d hd
                      obtain ⟨i, hi⟩ := List.getElem?_of_mem hd
                      obtain ⟨e, v', q1, q2, _⟩ := key i d hi
                      rw [(expL_get q2).1]
                      exact e3 e (List.mem_of_getElem? q1)) (by rw [hll]; omega) (by omega) (by
                      intro i j d p v1 q1 q2 q3
                      obtain ⟨e, v', f1, f2, f3⟩ := h2 i d q1
                      have hil : i < len := by have := (List.getElem?_eq_some_iff.1 q1).1; omega
                      have hmem := List.mem_of_getElem? f1
                      rw [List.getElem?_take_of_lt hil, List.getElem?_drop] at f1
                      obtain ⟨g1, g2⟩ := expL_get f2
                      obtain ⟨p0, v2, k1, k2, k3⟩ := g2 j p q2
                      refine ih k2 (fun q hq => hv q (List.mem_cons_of_mem _ (f3 q (k3 q hq)))) (fun X hX => hO' e hmem X (List.mem_flatMap.2 ⟨p0, List.mem_of_getElem? k1, hX⟩)) (e4 (off + i) j e p0 v1 f1 k1 ?_)
                      rw [← q3]; congr 1; rw [Nat.add_mul]; omega)
                  rw [hll] at this
                  exact this
            · cases hes
          · cases hes
        · cases he
      · cases he
    · rename_i id len
      split at he
      · rename_i B hB
        split at he
        · rename_i hst
          obtain ⟨hst, hsy⟩ := hst
          cases he
          have hlen : len = B.es.length := hO _ (by simp only [expO, hB]; exact List.mem_cons_self)
          have hstab : Stabs B.es := hI.syms id B hB hsy
          refine .rf _ _ _ ?_
          rw [hlen, range_getD]
          rcases own_inv (who_inv hr) with ⟨rfl, ad, rfl⟩ | ⟨b, o', sz, cap, c, et, rfl, hm, hz0, hb, hcap, hl⟩
          · have : B.es = [] := List.eq_nil_of_length_eq_zero hlen.symm
            rw [this]
            exact .ro0 _ _
          · obtain ⟨c1, et1, e1, e2, e3, e4⟩ := hI.blk id B b o' sz hB hst hm (.inr hz0)
            rw [hb] at e1
            cases e1
            have := RepS.ro (w := w) (S := R) B.es b o' cap sz c et (0, 0) (hv id (by simp) B b o' sz hB hst hm (.inr hz0) (lt_of_block hb)) hb e3 e2 (by omega) (fun i j e p v q1 q2 q3 => by
              have hs := List.all_eq_true.1 (hstab e (List.mem_of_getElem? q1)) p (List.mem_of_getElem? q2)
              exact (stab_rep (e4 i j e p v q1 q2 q3) hs).later hSR fun _ _ => rfl)
            rw [← hlen] at this
            simpa using this
        · cases he
      · cases he
    · cases he

theorem noRo_rep {w w' : World} {R R' : Nat → Prop} {r : PV} {u : Value} (hr : RepS w R r u) (hn : noRo r = true) : RepS w' R' r u := by
  have base : ∀ {r : PV} {u : Value}, RepS w R r u → noRo0 r = true → RepS w' R' r u := by
    intro r u hr hn
    cases hr with
    | sc => exact .sc _
    | bit => exact .bit _
    | nul => exact .nul _
    | _ => cases hn
  have aggs : ∀ {r : PV} {u : Value}, RepS w R r u → noRo1 r = true → RepS w' R' r u := by
    intro r u hr hn
    cases hr with
    | sc => exact .sc _
    | bit => exact .bit _
    | nul => exact .nul _
    | agg cs vs hl hc => exact .agg cs vs hl fun i c v q1 q2 => base (hc i c v q1 q2) (List.all_eq_true.1 hn c (List.mem_of_getElem? q1))
    | _ => cases hn
  cases hr with
  | sc => exact .sc _
  | bit => exact .bit _
  | nul => exact .nul _
  | agg cs vs hl hc => exact .agg cs vs hl fun i c v q1 q2 => aggs (hc i c v q1 q2) (List.all_eq_true.1 hn c (List.mem_of_getElem? q1))
  | tup cs vs hl hc => exact .tup cs vs hl fun i c v q1 q2 => aggs (hc i c v q1 q2) (List.all_eq_true.1 hn c (List.mem_of_getElem? q1))
  | _ => cases hn

theorem args_get : ∀ {l : List Operand} {ps : List PV}, argsP T l = some ps → ps.length = l.length ∧ ∀ (i : Nat) p, ps[i]? = some p → ∃ x, l[i]? = some x ∧ opnd T x = some p
  | [], ps, he => by simp [argsP] at he; subst he; simp
  | x :: l, ps, he => by
    simp only [argsP] at he
    split at he
    · rename_i v hv
      split at he
      · rename_i vs hvs
        cases he
        obtain ⟨h1, h2⟩ := args_get hvs
        refine ⟨by simp [h1], fun i p hi => ?_⟩
        cases i with
        | zero => simp at hi; subst hi; exact ⟨x, rfl, hv⟩
        | succ i => simp at hi; obtain ⟨y, q1, q2⟩ := h2 i p hi; exact ⟨y, by simpa using q1, q2⟩
      · cases he
    · cases he

theorem call_sound (hI : Inv w0 Sa h S m w) {f : Operand} {args : Array Operand} {ats : Array TypeId} (hop : o.op = .call ⟨.value f, args, ats⟩)
    (hT : ∀ x ∈ o.op.operands, ∀ p, opnd T x = some p → Rep w S m p (a.eval x)) (hE : EnvOk P E) (hGI : GI P w0) (hc : callP P E T h f args s = some (v, h', ob, s')) (hob : ∀ X ∈ ob, X)
    (hn : ∀ v' w', Post w0 Sa h' S m w v v' w' → next (a.put o.dst v') w') : o.wp P a w next Q := by
  unfold callP at hc
  split at hc
  · rename_i g ps hf hps
    split at hc
    · rename_i as vis hex
      split at hc
      · rename_i r1 ob1 hEg
        split at hc
        all_goals first | (cases hc; done) | skip
        rename_i hcond
        cases hc
        have hok : Ok P g as _ := hE g as _ _ hEg fun X hX => hob X (List.mem_append_right _ hX)
        have hGw : GI P w := hGI.below hI.bel
        simp only [Bool.and_eq_true] at hcond
        obtain ⟨hent, hvis⟩ := hcond
        have hfv : a.eval f = .func (.func g) #[] #[] := sc_inv (hT f (by rw [hop]; simp [Op.operands, Call.operands]) _ hf)
        obtain ⟨fn, hfn, hbody, hname⟩ : ∃ fn, P.funcs[g]? = some fn ∧ fn.body.isSome = true ∧ (fn.name == "runtime.NumGoroutine") = false := by
          unfold enters at hent
          split at hent
          · rename_i fn hfn
            simp only [Bool.and_eq_true, Bool.not_eq_true'] at hent
            exact ⟨fn, hfn, hent.1, hent.2⟩
          · cases hent
        have hrun : (execOp a.eval o).run P w = .ok (.enter g ((args.toList.map a.eval).toArray)) w := by
          have hnone : fn.body.isNone = false := by
            cases hb : fn.body with
            | none => rw [hb] at hbody; cases hbody
            | some c => rfl
          have hargs : (args.map a.eval) = (args.toList.map a.eval).toArray := by apply Array.ext'; simp
          simp only [execOp, hop, resolve, hfv, Deferred.ofValue, invoke, Sem.run_bind, Sem.run_pure, Result.andThen_ok, callFunc, run_program, hfn, hname, hnone, Bool.false_eq_true, if_false, hargs]
          simp
        let R : Nat → Prop := fun b => S b ∨ ∃ q ∈ vis, ∃ B o sz, h[q]? = some B ∧ m[q]? = some (b, o, sz) ∧ Rl B.es sz ∧ b < w.heap.size
        obtain ⟨p1, p2⟩ := args_get hps
        obtain ⟨x1, x2⟩ := expL_get hex
        have hRlt : ∀ b, R b → b < w.heap.size := by
          rintro b (hb | ⟨q, _, _, o', sz, _, _, _, hlt⟩)
          · exact hI.lt b hb
          · exact hlt
        have hcalls := hok w R (args.toList.map a.eval) hGw hRlt (by simp [x1, p1]) (by
          intro i p u q1 q2
          obtain ⟨c, vv, e1, e2, e3⟩ := x2 i p q1
          obtain ⟨y, f1, f2⟩ := p2 i c e1
          rw [List.getElem?_map, f1] at q2
          simp at q2
          subst q2
          have hy : y ∈ o.op.operands := by
            rw [hop]
            have : y ∈ args := by simpa using List.mem_of_getElem? f1
            simp [Op.operands, Call.operands, this]
          refine exp_rep (R := R) hI (fun b hb => .inl hb) e2 ?_ (fun X hX => hob X (List.mem_append_left _ (List.mem_flatMap.2 ⟨c, List.mem_of_getElem? e1, hX⟩))) (hT y hy c f2)
          intro q hq B b o' sz hB _ hm hr hlt
          exact .inr ⟨q, e3 q hq, B, o', sz, hB, hm, hr, hlt⟩)
        unfold Oper.wp
        rw [hrun]
        refine hcalls.mono ?_
        rintro e w' ⟨u, rfl, hbel, hrep⟩
        refine hn u w' ?_
        have hI1 := hI.grown hbel
        have hL := Later.grown S hI.lt hbel
        rcases Bool.or_eq_true _ _ ▸ hvis with hv0 | hno
        · have hv0 : vis = [] := by simpa using hv0
          subst hv0
          refine ⟨fun b => S b ∨ (w.heap.size ≤ b ∧ b < w'.heap.size), m, hI1.widen (fun b hb => .inl hb) ?_ ?_ ?_, fun p x hp => hp.later ⟨fun b hb => .inl hb, hL.keep, hL.shape⟩ fun _ _ h => h, .st _ _ (hrep.later ?_ fun _ _ => rfl)⟩
          · rintro b (hb | hb)
            · exact hI1.lt b hb
            · exact hb.2
          · rintro b (hb | hb)
            · exact hI.sub b hb
            · exact .inr (Nat.le_trans hI.bel.size hb.1)
          · intro id B b o' sz q1 q2 q3 qr
            rintro (hb | hb)
            · exact (hI.live id B b o' sz q1 q2 q3 qr).2 hb
            · obtain ⟨c', et', e1, _⟩ := hI.blk id B b o' sz q1 (by omega) q3 qr
              have := lt_of_block e1
              omega
          · rintro b ((hb | ⟨q, hq, _⟩) | hb)
            · exact .inl hb
            · cases hq
            · exact .inr hb
        · exact ⟨S, m, hI1, fun p x hp => hp.later hL fun _ _ h => h, .st _ _ (noRo_rep hrep hno)⟩
      · cases hc
    · cases hc
  · cases hc
end
end Go.PS
