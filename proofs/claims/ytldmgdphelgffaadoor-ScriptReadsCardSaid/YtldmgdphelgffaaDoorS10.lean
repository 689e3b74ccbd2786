/- Contracts of chapter 53: the reference's Line. -/
import Derived.Test.YtldmgdphelgffaaDoorS9
namespace Go.Proofs.YtldmgdphelgffaaDoor
open Go.PS

def d20 : List PV → Option (PV × List Prop)
  | [.agg [.sc (.int .i64 k), .sc (.int .i64 a), .sc (.int .i64 b), .sc (.string s)]] => some (Bo (okE ⟨k, a, b, s⟩ && decide (s.size ≤ 65536)), [s.size ≤ 9223372036854775807])
  | _ => none
def Ed : Env := addE 20 d20 Ec
theorem Ed_ok : EnvOk P Ed :=
  addE_ok Ec_ok (fun l r ob h ho => by unfold d20 at h; split at h <;> cases h; exact fits_ok ⟨_, _, _, _⟩ (ho _ (by simp)))

theorem kindsE (e : Ev) (h : okE e = true) : 1 ≤ e.kind ∧ e.kind ≤ 11 := by
  rw [okE_eq] at h
  have h1 : decide (wordS e.kind ≠ ⟨#[]⟩) = true := by
    cases hd : decide (wordS e.kind ≠ ⟨#[]⟩) with
    | true => rfl
    | false => rw [hd] at h; simp at h
  have := word_range e.kind (of_decide_eq_true h1)
  omega
theorem okE_text (e : Ev) (h : okE e = true) (ht : 65536 < e.text.size) : 65536 < (lineT e).length := by
  have hh := (hexOr_length e.text.data.toList).1
  rw [← Lib.size_eq] at hh
  rw [okE_eq] at h
  unfold lineT tailT
  cases hp : plainK e.kind with
  | true => simp; omega
  | false =>
    cases hq : bytesK e.kind with
    | true => simp; omega
    | false =>
      rw [hp, hq] at h
      exfalso
      have hz := size_zero e.text
      simp at h
      have := hz.2 h.1.2
      omega

set_option maxHeartbeats 0 in
theorem rline_ok (e : Ev) (ht : e.text.size ≤ 70000) (ha : InR e.a) (hb : InR e.b) : Ok P 9 [.agg e.cells] (lineV e) := by
  refine fn_tr Ed_ok L0 Tryd.func9 ((.node (!(okE e && decide (e.text.size ≤ 65536))) (
     .leaf (PV.tup [S (⟨#[]⟩ : ByteArray), I 1]) [e.text.size ≤ 9223372036854775807]) (
     .node ((e.kind : Int) != 11) (
      .node ((e.kind : Int) == 1) (
       .node (decide ((↑(wordS e.kind ++ ((⟨#[32]⟩ : ByteArray) ++ B (Lib.itoa e.a)) ++ ((⟨#[32]⟩ : ByteArray) ++ e.text)).size : Int) > 65536)) (
        .leaf (PV.tup [S (⟨#[]⟩ : ByteArray), I 1]) [e.text.size ≤ 9223372036854775807, InR e.a, (⟨#[32]⟩ : ByteArray).size + (B (Lib.itoa e.a)).size ≤ 9223372036854775807, (wordS e.kind).size + ((⟨#[32]⟩ : ByteArray) ++ B (Lib.itoa e.a)).size ≤ 9223372036854775807, (⟨#[32]⟩ : ByteArray).size + e.text.size ≤ 9223372036854775807, (wordS e.kind ++ ((⟨#[32]⟩ : ByteArray) ++ B (Lib.itoa e.a))).size + ((⟨#[32]⟩ : ByteArray) ++ e.text).size ≤ 9223372036854775807]) (
        .leaf (PV.tup [S (wordS e.kind ++ ((⟨#[32]⟩ : ByteArray) ++ B (Lib.itoa e.a)) ++ ((⟨#[32]⟩ : ByteArray) ++ e.text)), I 0]) [e.text.size ≤ 9223372036854775807, InR e.a, (⟨#[32]⟩ : ByteArray).size + (B (Lib.itoa e.a)).size ≤ 9223372036854775807, (wordS e.kind).size + ((⟨#[32]⟩ : ByteArray) ++ B (Lib.itoa e.a)).size ≤ 9223372036854775807, (⟨#[32]⟩ : ByteArray).size + e.text.size ≤ 9223372036854775807, (wordS e.kind ++ ((⟨#[32]⟩ : ByteArray) ++ B (Lib.itoa e.a))).size + ((⟨#[32]⟩ : ByteArray) ++ e.text).size ≤ 9223372036854775807])) (
       .node ((e.kind : Int) == 11) (
        .node (decide ((↑(wordS e.kind ++ ((⟨#[32]⟩ : ByteArray) ++ B (Lib.itoa e.a)) ++ ((⟨#[32]⟩ : ByteArray) ++ e.text)).size : Int) > 65536)) (
         .leaf (PV.tup [S (⟨#[]⟩ : ByteArray), I 1]) [e.text.size ≤ 9223372036854775807, InR e.a, (⟨#[32]⟩ : ByteArray).size + (B (Lib.itoa e.a)).size ≤ 9223372036854775807, (wordS e.kind).size + ((⟨#[32]⟩ : ByteArray) ++ B (Lib.itoa e.a)).size ≤ 9223372036854775807, (⟨#[32]⟩ : ByteArray).size + e.text.size ≤ 9223372036854775807, (wordS e.kind ++ ((⟨#[32]⟩ : ByteArray) ++ B (Lib.itoa e.a))).size + ((⟨#[32]⟩ : ByteArray) ++ e.text).size ≤ 9223372036854775807]) (
         .leaf (PV.tup [S (wordS e.kind ++ ((⟨#[32]⟩ : ByteArray) ++ B (Lib.itoa e.a)) ++ ((⟨#[32]⟩ : ByteArray) ++ e.text)), I 0]) [e.text.size ≤ 9223372036854775807, InR e.a, (⟨#[32]⟩ : ByteArray).size + (B (Lib.itoa e.a)).size ≤ 9223372036854775807, (wordS e.kind).size + ((⟨#[32]⟩ : ByteArray) ++ B (Lib.itoa e.a)).size ≤ 9223372036854775807, (⟨#[32]⟩ : ByteArray).size + e.text.size ≤ 9223372036854775807, (wordS e.kind ++ ((⟨#[32]⟩ : ByteArray) ++ B (Lib.itoa e.a))).size + ((⟨#[32]⟩ : ByteArray) ++ e.text).size ≤ 9223372036854775807])) (
        .node ((e.kind : Int) == 6) (
         .node (decide ((↑(wordS e.kind ++ ((⟨#[32]⟩ : ByteArray) ++ B (Lib.itoa e.a)) ++ ((⟨#[32]⟩ : ByteArray) ++ B (hexOr e.text.data.toList))).size : Int) > 65536)) (
          .leaf (PV.tup [S (⟨#[]⟩ : ByteArray), I 1]) [e.text.size ≤ 9223372036854775807, InR e.a, (⟨#[32]⟩ : ByteArray).size + (B (Lib.itoa e.a)).size ≤ 9223372036854775807, (wordS e.kind).size + ((⟨#[32]⟩ : ByteArray) ++ B (Lib.itoa e.a)).size ≤ 9223372036854775807, e.text.size ≤ 4294967296, (⟨#[32]⟩ : ByteArray).size + (B (hexOr e.text.data.toList)).size ≤ 9223372036854775807, (wordS e.kind ++ ((⟨#[32]⟩ : ByteArray) ++ B (Lib.itoa e.a))).size + ((⟨#[32]⟩ : ByteArray) ++ B (hexOr e.text.data.toList)).size ≤ 9223372036854775807]) (
          .leaf (PV.tup [S (wordS e.kind ++ ((⟨#[32]⟩ : ByteArray) ++ B (Lib.itoa e.a)) ++ ((⟨#[32]⟩ : ByteArray) ++ B (hexOr e.text.data.toList))), I 0]) [e.text.size ≤ 9223372036854775807, InR e.a, (⟨#[32]⟩ : ByteArray).size + (B (Lib.itoa e.a)).size ≤ 9223372036854775807, (wordS e.kind).size + ((⟨#[32]⟩ : ByteArray) ++ B (Lib.itoa e.a)).size ≤ 9223372036854775807, e.text.size ≤ 4294967296, (⟨#[32]⟩ : ByteArray).size + (B (hexOr e.text.data.toList)).size ≤ 9223372036854775807, (wordS e.kind ++ ((⟨#[32]⟩ : ByteArray) ++ B (Lib.itoa e.a))).size + ((⟨#[32]⟩ : ByteArray) ++ B (hexOr e.text.data.toList)).size ≤ 9223372036854775807])) (
         .node ((e.kind : Int) == 9) (
          .node (decide ((↑(wordS e.kind ++ ((⟨#[32]⟩ : ByteArray) ++ B (Lib.itoa e.a)) ++ ((⟨#[32]⟩ : ByteArray) ++ B (hexOr e.text.data.toList))).size : Int) > 65536)) (
           .leaf (PV.tup [S (⟨#[]⟩ : ByteArray), I 1]) [e.text.size ≤ 9223372036854775807, InR e.a, (⟨#[32]⟩ : ByteArray).size + (B (Lib.itoa e.a)).size ≤ 9223372036854775807, (wordS e.kind).size + ((⟨#[32]⟩ : ByteArray) ++ B (Lib.itoa e.a)).size ≤ 9223372036854775807, e.text.size ≤ 4294967296, (⟨#[32]⟩ : ByteArray).size + (B (hexOr e.text.data.toList)).size ≤ 9223372036854775807, (wordS e.kind ++ ((⟨#[32]⟩ : ByteArray) ++ B (Lib.itoa e.a))).size + ((⟨#[32]⟩ : ByteArray) ++ B (hexOr e.text.data.toList)).size ≤ 9223372036854775807]) (
           .leaf (PV.tup [S (wordS e.kind ++ ((⟨#[32]⟩ : ByteArray) ++ B (Lib.itoa e.a)) ++ ((⟨#[32]⟩ : ByteArray) ++ B (hexOr e.text.data.toList))), I 0]) [e.text.size ≤ 9223372036854775807, InR e.a, (⟨#[32]⟩ : ByteArray).size + (B (Lib.itoa e.a)).size ≤ 9223372036854775807, (wordS e.kind).size + ((⟨#[32]⟩ : ByteArray) ++ B (Lib.itoa e.a)).size ≤ 9223372036854775807, e.text.size ≤ 4294967296, (⟨#[32]⟩ : ByteArray).size + (B (hexOr e.text.data.toList)).size ≤ 9223372036854775807, (wordS e.kind ++ ((⟨#[32]⟩ : ByteArray) ++ B (Lib.itoa e.a))).size + ((⟨#[32]⟩ : ByteArray) ++ B (hexOr e.text.data.toList)).size ≤ 9223372036854775807])) (
          .node ((e.kind : Int) == 7) (
           .node (decide ((↑(wordS e.kind ++ ((⟨#[32]⟩ : ByteArray) ++ B (Lib.itoa e.a)) ++ ((⟨#[32]⟩ : ByteArray) ++ B (Lib.itoa e.b) ++ (⟨#[32]⟩ : ByteArray) ++ B (hexOr e.text.data.toList))).size : Int) > 65536)) (
            .leaf (PV.tup [S (⟨#[]⟩ : ByteArray), I 1]) [e.text.size ≤ 9223372036854775807, InR e.a, (⟨#[32]⟩ : ByteArray).size + (B (Lib.itoa e.a)).size ≤ 9223372036854775807, (wordS e.kind).size + ((⟨#[32]⟩ : ByteArray) ++ B (Lib.itoa e.a)).size ≤ 9223372036854775807, InR e.b, (⟨#[32]⟩ : ByteArray).size + (B (Lib.itoa e.b)).size ≤ 9223372036854775807, ((⟨#[32]⟩ : ByteArray) ++ B (Lib.itoa e.b)).size + (⟨#[32]⟩ : ByteArray).size ≤ 9223372036854775807, e.text.size ≤ 4294967296, ((⟨#[32]⟩ : ByteArray) ++ B (Lib.itoa e.b) ++ (⟨#[32]⟩ : ByteArray)).size + (B (hexOr e.text.data.toList)).size ≤ 9223372036854775807, (wordS e.kind ++ ((⟨#[32]⟩ : ByteArray) ++ B (Lib.itoa e.a))).size + ((⟨#[32]⟩ : ByteArray) ++ B (Lib.itoa e.b) ++ (⟨#[32]⟩ : ByteArray) ++ B (hexOr e.text.data.toList)).size ≤ 9223372036854775807]) (
            .leaf (PV.tup [S (wordS e.kind ++ ((⟨#[32]⟩ : ByteArray) ++ B (Lib.itoa e.a)) ++ ((⟨#[32]⟩ : ByteArray) ++ B (Lib.itoa e.b) ++ (⟨#[32]⟩ : ByteArray) ++ B (hexOr e.text.data.toList))), I 0]) [e.text.size ≤ 9223372036854775807, InR e.a, (⟨#[32]⟩ : ByteArray).size + (B (Lib.itoa e.a)).size ≤ 9223372036854775807, (wordS e.kind).size + ((⟨#[32]⟩ : ByteArray) ++ B (Lib.itoa e.a)).size ≤ 9223372036854775807, InR e.b, (⟨#[32]⟩ : ByteArray).size + (B (Lib.itoa e.b)).size ≤ 9223372036854775807, ((⟨#[32]⟩ : ByteArray) ++ B (Lib.itoa e.b)).size + (⟨#[32]⟩ : ByteArray).size ≤ 9223372036854775807, e.text.size ≤ 4294967296, ((⟨#[32]⟩ : ByteArray) ++ B (Lib.itoa e.b) ++ (⟨#[32]⟩ : ByteArray)).size + (B (hexOr e.text.data.toList)).size ≤ 9223372036854775807, (wordS e.kind ++ ((⟨#[32]⟩ : ByteArray) ++ B (Lib.itoa e.a))).size + ((⟨#[32]⟩ : ByteArray) ++ B (Lib.itoa e.b) ++ (⟨#[32]⟩ : ByteArray) ++ B (hexOr e.text.data.toList)).size ≤ 9223372036854775807])) (
           .node (decide ((↑(wordS e.kind ++ ((⟨#[32]⟩ : ByteArray) ++ B (Lib.itoa e.a))).size : Int) > 65536)) (
            .leaf (PV.tup [S (⟨#[]⟩ : ByteArray), I 1]) [e.text.size ≤ 9223372036854775807, InR e.a, (⟨#[32]⟩ : ByteArray).size + (B (Lib.itoa e.a)).size ≤ 9223372036854775807, (wordS e.kind).size + ((⟨#[32]⟩ : ByteArray) ++ B (Lib.itoa e.a)).size ≤ 9223372036854775807]) (
            .leaf (PV.tup [S (wordS e.kind ++ ((⟨#[32]⟩ : ByteArray) ++ B (Lib.itoa e.a))), I 0]) [e.text.size ≤ 9223372036854775807, InR e.a, (⟨#[32]⟩ : ByteArray).size + (B (Lib.itoa e.a)).size ≤ 9223372036854775807, (wordS e.kind).size + ((⟨#[32]⟩ : ByteArray) ++ B (Lib.itoa e.a)).size ≤ 9223372036854775807]))))))) (
      .node ((e.kind : Int) == 1) (
       .node (decide ((↑(wordS e.kind ++ ((⟨#[32]⟩ : ByteArray) ++ e.text)).size : Int) > 65536)) (
        .leaf (PV.tup [S (⟨#[]⟩ : ByteArray), I 1]) [e.text.size ≤ 9223372036854775807, (⟨#[32]⟩ : ByteArray).size + e.text.size ≤ 9223372036854775807, (wordS e.kind).size + ((⟨#[32]⟩ : ByteArray) ++ e.text).size ≤ 9223372036854775807]) (
        .leaf (PV.tup [S (wordS e.kind ++ ((⟨#[32]⟩ : ByteArray) ++ e.text)), I 0]) [e.text.size ≤ 9223372036854775807, (⟨#[32]⟩ : ByteArray).size + e.text.size ≤ 9223372036854775807, (wordS e.kind).size + ((⟨#[32]⟩ : ByteArray) ++ e.text).size ≤ 9223372036854775807])) (
       .node ((e.kind : Int) == 11) (
        .node (decide ((↑(wordS e.kind ++ ((⟨#[32]⟩ : ByteArray) ++ e.text)).size : Int) > 65536)) (
         .leaf (PV.tup [S (⟨#[]⟩ : ByteArray), I 1]) [e.text.size ≤ 9223372036854775807, (⟨#[32]⟩ : ByteArray).size + e.text.size ≤ 9223372036854775807, (wordS e.kind).size + ((⟨#[32]⟩ : ByteArray) ++ e.text).size ≤ 9223372036854775807]) (
         .leaf (PV.tup [S (wordS e.kind ++ ((⟨#[32]⟩ : ByteArray) ++ e.text)), I 0]) [e.text.size ≤ 9223372036854775807, (⟨#[32]⟩ : ByteArray).size + e.text.size ≤ 9223372036854775807, (wordS e.kind).size + ((⟨#[32]⟩ : ByteArray) ++ e.text).size ≤ 9223372036854775807])) (
        .node ((e.kind : Int) == 6) (
         .node (decide ((↑(wordS e.kind ++ ((⟨#[32]⟩ : ByteArray) ++ B (hexOr e.text.data.toList))).size : Int) > 65536)) (
          .leaf (PV.tup [S (⟨#[]⟩ : ByteArray), I 1]) [e.text.size ≤ 9223372036854775807, e.text.size ≤ 4294967296, (⟨#[32]⟩ : ByteArray).size + (B (hexOr e.text.data.toList)).size ≤ 9223372036854775807, (wordS e.kind).size + ((⟨#[32]⟩ : ByteArray) ++ B (hexOr e.text.data.toList)).size ≤ 9223372036854775807]) (
          .leaf (PV.tup [S (wordS e.kind ++ ((⟨#[32]⟩ : ByteArray) ++ B (hexOr e.text.data.toList))), I 0]) [e.text.size ≤ 9223372036854775807, e.text.size ≤ 4294967296, (⟨#[32]⟩ : ByteArray).size + (B (hexOr e.text.data.toList)).size ≤ 9223372036854775807, (wordS e.kind).size + ((⟨#[32]⟩ : ByteArray) ++ B (hexOr e.text.data.toList)).size ≤ 9223372036854775807])) (
         .node ((e.kind : Int) == 9) (
          .node (decide ((↑(wordS e.kind ++ ((⟨#[32]⟩ : ByteArray) ++ B (hexOr e.text.data.toList))).size : Int) > 65536)) (
           .leaf (PV.tup [S (⟨#[]⟩ : ByteArray), I 1]) [e.text.size ≤ 9223372036854775807, e.text.size ≤ 4294967296, (⟨#[32]⟩ : ByteArray).size + (B (hexOr e.text.data.toList)).size ≤ 9223372036854775807, (wordS e.kind).size + ((⟨#[32]⟩ : ByteArray) ++ B (hexOr e.text.data.toList)).size ≤ 9223372036854775807]) (
           .leaf (PV.tup [S (wordS e.kind ++ ((⟨#[32]⟩ : ByteArray) ++ B (hexOr e.text.data.toList))), I 0]) [e.text.size ≤ 9223372036854775807, e.text.size ≤ 4294967296, (⟨#[32]⟩ : ByteArray).size + (B (hexOr e.text.data.toList)).size ≤ 9223372036854775807, (wordS e.kind).size + ((⟨#[32]⟩ : ByteArray) ++ B (hexOr e.text.data.toList)).size ≤ 9223372036854775807])) (
          .node ((e.kind : Int) == 7) (
           .node (decide ((↑(wordS e.kind ++ ((⟨#[32]⟩ : ByteArray) ++ B (Lib.itoa e.b) ++ (⟨#[32]⟩ : ByteArray) ++ B (hexOr e.text.data.toList))).size : Int) > 65536)) (
            .leaf (PV.tup [S (⟨#[]⟩ : ByteArray), I 1]) [e.text.size ≤ 9223372036854775807, InR e.b, (⟨#[32]⟩ : ByteArray).size + (B (Lib.itoa e.b)).size ≤ 9223372036854775807, ((⟨#[32]⟩ : ByteArray) ++ B (Lib.itoa e.b)).size + (⟨#[32]⟩ : ByteArray).size ≤ 9223372036854775807, e.text.size ≤ 4294967296, ((⟨#[32]⟩ : ByteArray) ++ B (Lib.itoa e.b) ++ (⟨#[32]⟩ : ByteArray)).size + (B (hexOr e.text.data.toList)).size ≤ 9223372036854775807, (wordS e.kind).size + ((⟨#[32]⟩ : ByteArray) ++ B (Lib.itoa e.b) ++ (⟨#[32]⟩ : ByteArray) ++ B (hexOr e.text.data.toList)).size ≤ 9223372036854775807]) (
            .leaf (PV.tup [S (wordS e.kind ++ ((⟨#[32]⟩ : ByteArray) ++ B (Lib.itoa e.b) ++ (⟨#[32]⟩ : ByteArray) ++ B (hexOr e.text.data.toList))), I 0]) [e.text.size ≤ 9223372036854775807, InR e.b, (⟨#[32]⟩ : ByteArray).size + (B (Lib.itoa e.b)).size ≤ 9223372036854775807, ((⟨#[32]⟩ : ByteArray) ++ B (Lib.itoa e.b)).size + (⟨#[32]⟩ : ByteArray).size ≤ 9223372036854775807, e.text.size ≤ 4294967296, ((⟨#[32]⟩ : ByteArray) ++ B (Lib.itoa e.b) ++ (⟨#[32]⟩ : ByteArray)).size + (B (hexOr e.text.data.toList)).size ≤ 9223372036854775807, (wordS e.kind).size + ((⟨#[32]⟩ : ByteArray) ++ B (Lib.itoa e.b) ++ (⟨#[32]⟩ : ByteArray) ++ B (hexOr e.text.data.toList)).size ≤ 9223372036854775807])) (
           .node (decide ((↑(wordS e.kind).size : Int) > 65536)) (
            .leaf (PV.tup [S (⟨#[]⟩ : ByteArray), I 1]) [e.text.size ≤ 9223372036854775807]) (
            .leaf (PV.tup [S (wordS e.kind), I 0]) [e.text.size ≤ 9223372036854775807])))))))))) (by kernel_rfl) ?_
  have hwl := word_len e.kind
  have hi0 := itoa_len e.a ha
  have hi1 := itoa_len e.b hb
  have hs2 := (hexOr_length e.text.data.toList).2
  rw [← Lib.size_eq] at hs2
  have hk := kindsE e
  have htx := okE_text e
  have hsp : (⟨#[32]⟩ : ByteArray) = B [32] := rfl
  have htt : e.text = B e.text.data.toList := rfl
  have hwd : wordS e.kind = B (wordL e.kind) := rfl
  have b1 : (okE e && decide (e.text.size ≤ 65536)) = false → lineOk e = false := fun h => by
    unfold lineOk
    cases ho : okE e with
    | false => rfl
    | true =>
      rw [ho] at h
      have : ¬ e.text.size ≤ 65536 := by simpa using h
      have := htx ho (by omega)
      exact decide_eq_false (by omega)
  have b2 : ∀ x : ByteArray, x = B (lineT e) → (x.size : Int) > 65536 → lineOk e = false := fun x hx h => by
    rw [hx, B_size] at h
    unfold lineOk
    rw [Bool.and_eq_false_iff]
    exact .inr (decide_eq_false (by omega))
  have g : ∀ x : ByteArray, x = B (lineT e) → (okE e && decide (e.text.size ≤ 65536)) = true → ¬ (x.size : Int) > 65536 → lineOk e = true := fun x hx h1 h2 => by
    rw [hx, B_size] at h2
    unfold lineOk
    rw [Bool.and_eq_true] at h1 ⊢
    exact ⟨h1.1, decide_eq_true (by omega)⟩
  have hr : (okE e && decide (e.text.size ≤ 65536)) = true → 1 ≤ e.kind ∧ e.kind ≤ 11 := fun h => by
    rw [Bool.and_eq_true] at h
    exact hk h.1
  have e1 : e.kind = 1 → wordS e.kind ++ ((⟨#[32]⟩ : ByteArray) ++ B (Lib.itoa e.a)) ++ ((⟨#[32]⟩ : ByteArray) ++ e.text) = B (lineT e) := fun h => by
    conv => lhs; rw [hsp, hwd, htt, B_append, B_append, B_append, B_append]
    unfold lineT tailT txN plainK bytesK numS
    simp [h]
  have e6 : (e.kind = 6 ∨ e.kind = 9) → wordS e.kind ++ ((⟨#[32]⟩ : ByteArray) ++ B (Lib.itoa e.a)) ++ ((⟨#[32]⟩ : ByteArray) ++ B (hexOr e.text.data.toList)) = B (lineT e) := fun h => by
    rw [hsp, hwd, B_append, B_append, B_append, B_append]
    unfold lineT tailT txN plainK bytesK numS
    rcases h with h | h <;> simp [h]
  have e7 : e.kind = 7 → wordS e.kind ++ ((⟨#[32]⟩ : ByteArray) ++ B (Lib.itoa e.a)) ++ ((⟨#[32]⟩ : ByteArray) ++ B (Lib.itoa e.b) ++ (⟨#[32]⟩ : ByteArray) ++ B (hexOr e.text.data.toList)) = B (lineT e) := fun h => by
    rw [hsp, hwd, B_append, B_append, B_append, B_append, B_append, B_append]
    unfold lineT tailT txN plainK bytesK numS
    simp [h]
  have e2 : 1 ≤ e.kind ∧ e.kind ≤ 11 → ¬ e.kind = 1 → ¬ e.kind = 6 → ¬ e.kind = 7 → ¬ e.kind = 9 → ¬ e.kind = 11 → wordS e.kind ++ ((⟨#[32]⟩ : ByteArray) ++ B (Lib.itoa e.a)) = B (lineT e) := fun h h1 h6 h7 h9 h11 => by
    rw [hsp, hwd, B_append, B_append]
    unfold lineT tailT txN plainK bytesK numS
    have h0 : 1 ≤ e.kind ∧ e.kind ≤ 10 := by omega
    simp [h1, h6, h7, h9, h11, h0]
  have e11 : e.kind = 11 → wordS e.kind ++ ((⟨#[32]⟩ : ByteArray) ++ e.text) = B (lineT e) := fun h => by
    conv => lhs; rw [hsp, hwd, htt, B_append, B_append]
    unfold lineT tailT txN plainK bytesK numS
    simp [h]
  have s32 : (⟨#[32]⟩ : ByteArray).size = 1 := rfl
  have swd : (wordS e.kind).size ≤ 7 := by rw [Lib.size_eq]; exact hwl
  simp only [Tr.All, AllP, decide_eq_true_eq, decide_eq_false_iff_not, beq_iff_eq, beq_eq_false_iff_ne, bne_iff_ne, bne_eq_false_iff_eq, Bool.not_eq_true', Bool.not_eq_false']
  repeat' with_reducible first | intro _ | refine And.intro ?_ ?_
  all_goals first | trivial | omega | exact line_bad (b1 (by assumption)) | exact line_bad (b2 _ (e1 (by assumption)) (by assumption)) | exact line_good (g _ (e1 (by assumption)) (by assumption) (by assumption)) (e1 (by assumption)) | exact line_bad (b2 _ (e6 (.inl (by assumption))) (by assumption)) | exact line_good (g _ (e6 (.inl (by assumption))) (by assumption) (by assumption)) (e6 (.inl (by assumption))) | exact line_bad (b2 _ (e6 (.inr (by assumption))) (by assumption)) | exact line_good (g _ (e6 (.inr (by assumption))) (by assumption) (by assumption)) (e6 (.inr (by assumption))) | exact line_bad (b2 _ (e7 (by assumption)) (by assumption)) | exact line_good (g _ (e7 (by assumption)) (by assumption) (by assumption)) (e7 (by assumption)) | exact line_bad (b2 _ (e11 (by assumption)) (by assumption)) | exact line_good (g _ (e11 (by assumption)) (by assumption) (by assumption)) (e11 (by assumption)) | exact line_bad (b2 _ (e2 (hr (by assumption)) (by assumption) (by assumption) (by assumption) (by assumption) (by assumption)) (by assumption)) | exact line_good (g _ (e2 (hr (by assumption)) (by assumption) (by assumption) (by assumption) (by assumption) (by assumption)) (by assumption) (by assumption)) (e2 (hr (by assumption)) (by assumption) (by assumption) (by assumption) (by assumption) (by assumption)) | assumption | (simp only [ByteArray.size_append, B_size, s32]; omega)
end Go.Proofs.YtldmgdphelgffaaDoor
