/- The plain law of chapter 53: what Line writes, both guesses read again. -/
import Derived.Test.YtldmgdphelgffaaDoorS13
namespace Go.Proofs.YtldmgdphelgffaaDoor
open Go.PS

theorem cutL_app (c : UInt8) : ∀ (l r : List UInt8), c ∉ l → cutL c (l ++ c :: r) = (l, r, true)
  | [], r, _ => by rw [List.nil_append, cutL_cons, if_pos rfl]
  | b :: l, r, h => by
    have hb : ¬ b = c := fun e => h (by simp [e])
    rw [List.cons_append, cutL_cons, if_neg hb, cutL_app c l r (fun h2 => h (List.mem_cons_of_mem _ h2))]
theorem cutL_no (c : UInt8) : ∀ l : List UInt8, c ∉ l → cutL c l = (l, [], false)
  | [], _ => rfl
  | b :: l, h => by
    have hb : ¬ b = c := fun e => h (by simp [e])
    rw [cutL_cons, if_neg hb, cutL_no c l (fun h2 => h (List.mem_cons_of_mem _ h2))]

theorem dig_no (k : Nat) (hk : k < 10) : (32 : UInt8) ≠ UInt8.ofNat (48 + k) := by
  have key : ∀ j : Fin 10, (32 : UInt8) ≠ UInt8.ofNat (48 + j.val) := by decide
  exact key ⟨k, hk⟩
theorem decDigits_no : ∀ (n u : Nat), u < n → (32 : UInt8) ∉ Lib.decDigits u
  | 0, _, h => absurd h (Nat.not_lt_zero _)
  | n + 1, u, h => by
    rw [Lib.decDigits]
    split
    · rename_i h1
      simpa using dig_no u h1
    · rename_i h1
      have ih := decDigits_no n (u / 10) (by omega)
      have := dig_no (u % 10) (Nat.mod_lt _ (by decide))
      rw [List.mem_append]
      rintro (h2 | h2)
      · exact ih h2
      · exact this (by simpa using h2)
theorem itoa_pos {n : Int} (h : 0 ≤ n) : Lib.itoa n = Lib.decDigits n.toNat := by unfold Lib.itoa; rw [if_neg (by omega)]
theorem itoa_no {n : Int} (h : 0 ≤ n) : (32 : UInt8) ∉ Lib.itoa n := by
  rw [itoa_pos h]
  exact decDigits_no _ _ (Nat.lt_succ_self _)
theorem word_no (k : Int) : (32 : UInt8) ∉ wordL k := by
  unfold wordL wordS
  split
  · have key : ∀ j : Fin 12, (32 : UInt8) ∉ (wordTab.getD j.val default).data.toList := by decide
    exact key ⟨k.toNat, by omega⟩
  · simp

theorem parseL_append : ∀ (l m : List UInt8) (n : Int), parseL (l ++ m) n = (parseL l n).bind (parseL m)
  | [], _, _ => rfl
  | c :: l, m, n => by
    rw [List.cons_append, parseL, parseL]
    split
    · exact parseL_append l m _
    · rfl
theorem dig_val (k : Nat) (hk : k < 10) : ((UInt8.ofNat (48 + k)).toNat : Int) = 48 + k := by
  have key : ∀ j : Fin 10, ((UInt8.ofNat (48 + j.val)).toNat : Int) = 48 + j.val := by decide
  exact key ⟨k, hk⟩
theorem parse_digits : ∀ (n u : Nat), u < n → (u : Int) ≤ maxId → parseL (Lib.decDigits u) 0 = some (u : Int)
  | 0, _, h, _ => absurd h (Nat.not_lt_zero _)
  | n + 1, u, h, hm => by
    rw [Lib.decDigits]
    split
    · rename_i h1
      rw [parseL, dig_val u h1, if_pos (by omega)]
      simp only [parseL]
      congr 1; omega
    · rename_i h1
      have hk := Nat.mod_lt u (show 0 < 10 by decide)
      rw [parseL_append, parse_digits n (u / 10) (by omega) (by omega)]
      simp only [Option.bind_some, parseL]
      rw [dig_val _ hk, if_pos (by omega)]
      congr 1; omega
theorem digits_head : ∀ (n u : Nat), u < n → 1 ≤ u → ((Lib.decDigits u).getD 0 0).toNat ≠ 48 ∧ 0 < (Lib.decDigits u).length
  | 0, _, h, _ => absurd h (Nat.not_lt_zero _)
  | n + 1, u, h, h1 => by
    rw [Lib.decDigits]
    split
    · rename_i h2
      have := dig_val u h2
      simp
      omega
    · rename_i h2
      obtain ⟨a, b⟩ := digits_head n (u / 10) (by omega) (by omega)
      refine ⟨?_, by simp⟩
      rw [List.getD_eq_getElem?_getD, List.getElem?_append_left b, ← List.getD_eq_getElem?_getD]
      exact a
theorem parse_itoa {n : Int} (h0 : 0 ≤ n) (h1 : n ≤ maxId) : parse10 (B (Lib.itoa n)) = some n := by
  rw [itoa_pos h0]
  have hp := parse_digits (n.toNat + 1) n.toNat (Nat.lt_succ_self _) (by omega)
  have hl : 0 < (Lib.decDigits n.toNat).length := by
    rw [Lib.decDigits]
    split <;> simp
  unfold parse10
  rw [B_list, hp, if_neg]
  · congr 1; omega
  · rintro (h | ⟨h2, h3⟩)
    · rw [nil_iff, B_list] at h
      rw [h] at hl
      simp at hl
    · by_cases hz : n.toNat = 0
      · rw [hz, B_size, Lib.decDigits, dif_pos (by decide)] at h2
        simp at h2
      · have := (digits_head (n.toNat + 1) n.toNat (Nat.lt_succ_self _) (by omega)).1
        omega

theorem val_hex (k : Nat) (hk : k < 16) : valS (hexd.getD k 0).toNat = k := by
  have key : ∀ j : Fin 16, valS (hexd.getD j.val 0).toNat = j.val := by decide
  exact key ⟨k, hk⟩
theorem unhex_hex : ∀ l : List UInt8, unhexL (hexL l) = some l
  | [] => rfl
  | b :: l => by
    have hb := b.toNat_lt
    rw [hexL_cons, unhexL, val_hex _ (by omega), val_hex _ (by omega), if_neg (by omega), unhex_hex l]
    simp only [Option.map_some]
    congr 2
    rw [show (16 * ((b.toNat / 16 : Nat) : Int) + ((b.toNat % 16 : Nat) : Int)).toNat = b.toNat by omega]
    simp
theorem unhex_or (l : List UInt8) : (unhexL (hexOr l)).getD [] = l := by
  unfold hexOr
  split
  · rename_i h; subst h; rfl
  · rw [unhex_hex]; rfl

theorem find_word (k : Int) (h0 : 1 ≤ k) (h1 : k ≤ 11) : findK (wordL k) 1 = some k.toNat := by
  have key : ∀ j : Fin 12, 1 ≤ j.val → findK (wordL (j.val : Int)) 1 = some j.val := by decide
  have := key ⟨k.toNat, by omega⟩ (by show 1 ≤ k.toNat; omega)
  rw [← this]
  congr 2
  show k = ((k.toNat : Nat) : Int)
  omega

theorem num_part {n : Int} (h0 : 0 ≤ n) (h1 : n ≤ maxId) (t : List UInt8) : numPart (Lib.itoa n ++ 32 :: t) = n ∧ rest1 (Lib.itoa n ++ 32 :: t) = t := by
  unfold numPart rest1
  rw [cutL_app 32 _ _ (itoa_no h0), parse_itoa h0 h1]
  exact ⟨rfl, rfl⟩
theorem num_part0 {n : Int} (h0 : 0 ≤ n) (h1 : n ≤ maxId) : numPart (Lib.itoa n) = n ∧ rest1 (Lib.itoa n) = [] := by
  unfold numPart rest1
  rw [cutL_no 32 _ (itoa_no h0), parse_itoa h0 h1]
  exact ⟨rfl, rfl⟩

/-- The line of an event is read as the event. -/
theorem read_line (e : Ev) (h : lineOk e = true) : guessE (B (lineT e)) = e ∧ guessR (B (lineT e)) = e := by
  unfold lineOk at h
  rw [Bool.and_eq_true] at h
  obtain ⟨ho, hl⟩ := h
  have hk := kindsE e ho
  unfold okE at ho
  simp only [Bool.and_eq_true, Bool.or_eq_true, decide_eq_true_eq, idOk] at ho
  obtain ⟨⟨⟨⟨⟨hw, ha⟩, hb⟩, ht⟩, h2⟩, h1⟩ := ho
  obtain ⟨k, a, b, t⟩ := e
  simp only at *
  have hf := find_word k hk.1 hk.2
  -- behind the word
  have cases : (k = 11 ∧ a = 0 ∧ b = 0) ∨ (k = 1 ∧ b = 0) ∨ ((k = 6 ∨ k = 9) ∧ b = 0) ∨ k = 7 ∨ ((k = 2 ∨ k = 3 ∨ k = 4 ∨ k = 5 ∨ k = 8 ∨ k = 10) ∧ b = 0 ∧ t = ⟨#[]⟩) := by
    unfold plainK bytesK at ht
    unfold numS at h1 h2
    have : k = 1 ∨ k = 2 ∨ k = 3 ∨ k = 4 ∨ k = 5 ∨ k = 6 ∨ k = 7 ∨ k = 8 ∨ k = 9 ∨ k = 10 ∨ k = 11 := by omega
    rcases this with rfl | rfl | rfl | rfl | rfl | rfl | rfl | rfl | rfl | rfl | rfl <;> simp_all
  have fin : ∀ R : List UInt8, lineT ⟨k, a, b, t⟩ = wordL k ++ 32 :: R → evP k R = ⟨k, a, b, t⟩ → evR k R = ⟨k, a, b, t⟩ → guessE (B (lineT ⟨k, a, b, t⟩)) = ⟨k, a, b, t⟩ ∧ guessR (B (lineT ⟨k, a, b, t⟩)) = ⟨k, a, b, t⟩ := by
    intro R hR hP hRr
    have hkn : ((k.toNat : Nat) : Int) = k := by omega
    unfold guessE guessR kR
    rw [B_list, hR, cutL_app 32 _ _ (word_no k)]
    simp only [hf, if_true, hkn]
    exact ⟨hP, hRr⟩
  have htB : B t.data.toList = t := rfl
  rcases cases with ⟨rfl, rfl, rfl⟩ | ⟨rfl, rfl⟩ | ⟨hk2, rfl⟩ | rfl | ⟨hk2, rfl, rfl⟩
  · refine fin t.data.toList ?_ ?_ ?_
    · simp [lineT, txN, tailT, numS, plainK, bytesK]
    · simp [evP, aN, bN, rN, numS, plainK, htB]
    · simp [evR, htB]
  · obtain ⟨n1, n2⟩ := num_part ha.1 ha.2 t.data.toList
    refine fin (Lib.itoa a ++ 32 :: t.data.toList) ?_ ?_ ?_
    · simp [lineT, txN, tailT, numS, plainK, bytesK]
    · simp [evP, aN, bN, rN, numS, plainK, n1, n2, htB]
    · simp [evR, n1, n2, htB]
  · obtain ⟨n1, n2⟩ := num_part ha.1 ha.2 (hexOr t.data.toList)
    refine fin (Lib.itoa a ++ 32 :: hexOr t.data.toList) ?_ ?_ ?_
    · rcases hk2 with rfl | rfl <;> simp [lineT, txN, tailT, numS, plainK, bytesK]
    · rcases hk2 with rfl | rfl <;> simp [evP, aN, bN, rN, numS, plainK, bytesK, n1, n2, unhex_or, htB]
    · rcases hk2 with rfl | rfl <;> simp [evR, n1, n2, unhex_or, htB]
  · obtain ⟨n1, n2⟩ := num_part ha.1 ha.2 (Lib.itoa b ++ 32 :: hexOr t.data.toList)
    obtain ⟨n3, n4⟩ := num_part hb.1 hb.2 (hexOr t.data.toList)
    refine fin (Lib.itoa a ++ 32 :: (Lib.itoa b ++ 32 :: hexOr t.data.toList)) ?_ ?_ ?_
    · simp [lineT, txN, tailT, numS, plainK, bytesK]
    · simp [evP, aN, bN, rN, numS, plainK, bytesK, n1, n2, n3, n4, unhex_or, htB]
    · simp [evR, n1, n2, n3, n4, unhex_or, htB]
  · obtain ⟨n1, n2⟩ := num_part0 ha.1 ha.2
    have hp := parse_itoa ha.1 ha.2
    refine fin (Lib.itoa a) ?_ ?_ ?_
    · rcases hk2 with rfl | rfl | rfl | rfl | rfl | rfl <;> simp [lineT, txN, tailT, numS, plainK, bytesK]
    · rcases hk2 with rfl | rfl | rfl | rfl | rfl | rfl <;> simp [evP, aN, bN, numS, plainK, bytesK, n1]
    · rcases hk2 with rfl | rfl | rfl | rfl | rfl | rfl <;> simp [evR, hp]
end Go.Proofs.YtldmgdphelgffaaDoor
