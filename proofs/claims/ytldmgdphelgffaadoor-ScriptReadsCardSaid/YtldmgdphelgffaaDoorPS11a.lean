/- make, and bytes as a string. -/
import Derived.Test.YtldmgdphelgffaaDoorPS11
import Derived.Laws.MakeOwn
import Derived.Laws.BytesString
namespace Go.PS
open Go.RowKit

section
variable {E : Env} {P : Program} {w0 w : World} {Sa S : Nat → Prop} {h h' : Hp} {m : Mp} {a : Act} {o : Oper} {T : List PV} {s s' : Scr} {ob : List Prop} {v : PV} {next : Act → World → Prop} {Q : Exit → Act → World → Prop}

theorem mod_row {i j z : Nat} (hj : j < z) : (i * z + j) % z = j := by
  rw [Nat.mul_comm, Nat.mul_add_mod]
  exact Nat.mod_eq_of_lt hj

theorem make_sound (hI : Inv w0 Sa h S m w) {t : TypeId} {x y : Operand} {kl kc : IntKind} {n k : Int} {r : PV} (hop : o.op = .makeSlice t x y) (hx : a.eval x = .int kl n) (hy : a.eval y = .int kc k)
    (hm : makeP P h t n k = some (r, h', ob)) (hob : ∀ X ∈ ob, X) (hn : ∀ v' w', Post w0 Sa h' S m w r v' w' → next (a.put o.dst v') w') : o.wp P a w next Q := by
  unfold makeP at hm
  split at hm
  · rename_i e hu
    split at hm
    · rename_i z by8 zv hz hb hzv
      split at hm
      · rename_i hpos
        obtain ⟨hz0, hb0, hzs, hzst⟩ := hpos
        cases hm
        have h0 : 0 ≤ n := hob _ (by simp)
        have h1 : n ≤ k := hob _ (by simp)
        have h2 : k * by8 ≤ roomP := hob _ (by simp)
        unfold roomP at h2
        have hk : k ≤ 140737488355328 := Int.le_trans (by
          have : k * 1 ≤ k * (by8 : Int) := Int.mul_le_mul_of_nonneg_left (by omega) (by omega)
          omega) h2
        cases hi : P.info? e with
        | none => unfold szP at hz; rw [hi] at hz; cases hz
        | some i =>
          have hib : i.bytes = by8 := by rw [hi] at hb; simpa using hb
          have hiz : i.zero = some zv := by unfold zeroP at hzv; rw [hi] at hzv; simpa using hzv
          have his : i.size = z := by unfold szP at hz; rw [hi] at hz; simpa using hz
          have hrun := run_make (P := P) w t e i zv hu hi hiz kl kc n k h0 h1 (by rw [hib, Int.mul_comm]; omega) (by omega)
          rw [his] at hrun
          obtain ⟨n', rfl⟩ := Int.eq_ofNat_of_zero_le h0
          obtain ⟨k', rfl⟩ := Int.eq_ofNat_of_zero_le (show 0 ≤ k by omega)
          simp only [Int.toNat_natCast] at hrun hn
          have hrows : ∀ e ∈ List.replicate n' (zv.cells.toList.map cellOf), e.length = z := fun e he => by rw [(List.mem_replicate.1 he).2]; simpa using hzs
          have hsize : (madeCells zv.cells (k' * z)).size = k' * z := by simp [madeCells]
          have hle : n' * z ≤ k' * z := Nat.mul_le_mul_right _ (by omega)
          obtain ⟨hI', hG⟩ := hI.alloc (madeCells zv.cells (k' * z)) e (List.replicate n' (zv.cells.toList.map cellOf)) z hrows (by rw [hsize]; simpa using hle) (by
            intro i' j e' p v q1 q2 q3
            have hil : i' < n' := by have := (List.getElem?_eq_some_iff.1 q1).1; simpa using this
            have he' : e' = zv.cells.toList.map cellOf := (List.mem_replicate.1 (List.mem_of_getElem? q1)).2
            subst he'
            have hj : j < z := by have := (List.getElem?_eq_some_iff.1 q2).1; rw [← hzs]; simpa using this
            refine zero_rep (w := w) (S := S) (m := m) zv j p v q2 ?_
            have hlt := (Array.getElem?_eq_some_iff.1 q3).1
            rw [hsize] at hlt
            rw [madeCells, Array.getElem?_map, Array.getElem?_range, if_pos hlt] at q3
            simp only [Option.map_some, Option.some.injEq] at q3
            rw [hzs, mod_row hj] at q3
            have hjs : j < zv.cells.size := by omega
            rw [← q3, Array.getElem?_eq_getElem hjs, getElem!_pos zv.cells j hjs]) (sm := true) (fun _ e he => by rw [(List.mem_replicate.1 he).2]; exact hzst)
          refine wp_value' (v' := .slice (some ⟨w.heap.size, 0, none⟩) n' k') (by simp [execOp, hop, hx, hy, hrun]) (hn _ _ ⟨S, _, hI', hG, .who _ _ _ ?_⟩)
          have := Rep.own (w := w.alloc (.cells (madeCells zv.cells (k' * z)) e)) (S := S) (m := m ++ [(w.heap.size, 0, z)]) h.length 0 n' k' w.heap.size 0 z (madeCells zv.cells (k' * z)) e (by rw [← hI.len]; simp) hz0 (heap_alloc_new' _ _) (by omega) (by rw [hsize]; simp)
          simpa using this
      · cases hm
    · cases hm
  · cases hm

theorem foldl_push : ∀ (ns : List Int) (s : ByteArray), ns.foldl (fun r n => r.push (UInt8.ofNat n.toNat)) s = ⟨(s.data.toList ++ ns.map fun n => UInt8.ofNat n.toNat).toArray⟩
  | [], s => by simp
  | n :: ns, s => by
    rw [List.foldl_cons, foldl_push ns]
    simp [ByteArray.push]

theorem conv_sound (hI : Inv w0 Sa h S m w) {src dst : TypeId} {x : Operand} {q r : PV} (hop : o.op = .convert src dst x) (hr : Rep w S m q (a.eval x)) (hc : convP P h src dst (some q) = some (r, ob)) (hob : ∀ X ∈ ob, X)
    (hn : ∀ v' w', Post w0 Sa h S m w r v' w' → next (a.put o.dst v') w') : o.wp P a w next Q := by
  unfold convP at hc
  split at hc
  · rename_i e hs hd
    split at hc
    · rename_i q' he hz hq
      cases hq
      split at hc
      · rename_i es ob' hel
        cases hc
        have hB : Bytes es := bytes_of (hob _ List.mem_cons_self)
        have hone : ∀ e ∈ es, e.length = 1 := fun e he => by
          have := hB e he
          unfold isByte at this
          split at this
          · rfl
          · cases this
        obtain ⟨ad, cap, news, hu, hnl, hf, hrep⟩ := src_ofW (P := P) (z := 1) hI hr hel (fun X hX => hob X (List.mem_cons_of_mem _ hX)) hone
        have hnews : news = (es.map fun e => match e with | [.sc (.int .u8 n)] => n | _ => 0).map (Value.int .u8) := by
          apply List.ext_getElem?
          intro i
          by_cases hi : i < es.length
          · have hil : i < news.length := by omega
            rw [List.getElem?_eq_getElem hil]
            have hb := hB es[i] (List.getElem_mem hi)
            unfold isByte at hb
            split at hb
            · rename_i n he
              have := hrep i 0 _ (.sc (.int .u8 n)) news[i] (List.getElem?_eq_getElem hi) (by rw [he]; rfl) (by simp [hil])
              have hv := sc_inv this
              rw [hv, List.getElem?_map, List.getElem?_map, List.getElem?_eq_getElem hi, he]
              rfl
            · cases hb
          · rw [List.getElem?_eq_none (by omega), List.getElem?_eq_none (by simp; omega)]
        have hbytes : bytesP es = ⟨((es.map fun e => match e with | [.sc (.int .u8 n)] => n | _ => 0).map fun n => UInt8.ofNat n.toNat).toArray⟩ := by
          unfold bytesP
          rw [List.map_map]
          congr 2
          apply List.map_congr_left
          intro e he
          have hb := hB e he
          unfold isByte at hb
          split at hb
          · rfl
          · cases hb
        refine wp_value (v' := .string (bytesP es)) ?_ (hn _ _ (post_same hI (.st _ _ (.sc _))))
        simp only [execOp, hop, Sem.run_bind]
        rw [hu, run_convert_bytes_string w src dst e ad _ cap hs he hd]
        cases ad with
        | none =>
          have h0 := hf w rfl
          rw [hu] at h0
          have hnil : news = [] := by simpa [Builtin.firstCells] using h0.symm
          rw [hnil] at hnl
          have : es = [] := List.eq_nil_of_length_eq_zero (by simpa using hnl.symm)
          subst this
          simp [Conv.bytesToString, bytesP]
          rfl
        | some ad =>
          have h0 := hf w rfl
          rw [hu] at h0
          simp only [Builtin.firstCells, Nat.mul_one] at h0
          rw [hnews] at h0
          rw [run_bytesToString w ad es.length cap _ h0, foldl_push, hbytes]
          simp [ByteArray.empty, ByteArray.emptyWithCapacity]
          rfl
      · cases hc
    · cases hc
  · cases hc
end
end Go.PS
