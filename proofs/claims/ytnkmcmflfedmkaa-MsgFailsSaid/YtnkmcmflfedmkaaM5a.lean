/- Contracts of chapter 8: the fields that a kind uses. -/
import Derived.Test.YtnkmcmflfedmkaaM4
namespace Go.Proofs.Ytnkmcmflfedmkaa
open Go.PS

def fieldsS (k : Int) : ByteArray :=
  if k = 100 then ⟨#[122, 118]⟩ else if k = 101 then ⟨#[122, 118, 83]⟩ else if k = 102 then ⟨#[97, 117, 116]⟩ else if k = 103 ∨ k = 105 then ⟨#[113]⟩ else if k = 104 then ⟨#[102, 97, 117, 116]⟩ else
  if k = 107 then ⟨#[69]⟩ else if k = 108 then ⟨#[111]⟩ else if k = 110 then ⟨#[102, 110, 78]⟩ else if k = 111 then ⟨#[81]⟩ else if k = 112 then ⟨#[102, 109]⟩ else if k = 113 ∨ k = 115 then ⟨#[113, 105]⟩ else
  if k = 114 then ⟨#[102, 101, 112, 109]⟩ else if k = 116 then ⟨#[102, 79, 99]⟩ else if k = 117 then ⟨#[100]⟩ else if k = 118 then ⟨#[102, 79, 100]⟩ else if k = 119 then ⟨#[99]⟩ else
  if k = 120 ∨ k = 122 ∨ k = 124 then ⟨#[102]⟩ else if k = 125 then ⟨#[115]⟩ else if k = 126 then ⟨#[102, 115]⟩ else if k = 128 then ⟨#[102, 108, 84]⟩ else if k = 129 then ⟨#[113, 108, 84]⟩ else if k = 130 then ⟨#[83]⟩ else ⟨#[]⟩

theorem fields34_ok (k : Int) : Ok P 34 [I k] (S (fieldsS k)) :=
  fn_tr Ec_ok L0 Try.func34 ((.node (k == 100) (
     .leaf (S (⟨#[122, 118]⟩ : ByteArray)) []) (
     .node (k == 101) (
      .leaf (S (⟨#[122, 118, 83]⟩ : ByteArray)) []) (
      .node (k == 102) (
       .leaf (S (⟨#[97, 117, 116]⟩ : ByteArray)) []) (
       .node (k == 103) (
        .leaf (S (⟨#[113]⟩ : ByteArray)) []) (
        .node (k == 105) (
         .leaf (S (⟨#[113]⟩ : ByteArray)) []) (
         .node (k == 104) (
          .leaf (S (⟨#[102, 97, 117, 116]⟩ : ByteArray)) []) (
          .node (k == 107) (
           .leaf (S (⟨#[69]⟩ : ByteArray)) []) (
           .node (k == 108) (
            .leaf (S (⟨#[111]⟩ : ByteArray)) []) (
            .node (k == 110) (
             .leaf (S (⟨#[102, 110, 78]⟩ : ByteArray)) []) (
             .node (k == 111) (
              .leaf (S (⟨#[81]⟩ : ByteArray)) []) (
              .node (k == 112) (
               .leaf (S (⟨#[102, 109]⟩ : ByteArray)) []) (
               .node (k == 113) (
                .leaf (S (⟨#[113, 105]⟩ : ByteArray)) []) (
                .node (k == 115) (
                 .leaf (S (⟨#[113, 105]⟩ : ByteArray)) []) (
                 .node (k == 114) (
                  .leaf (S (⟨#[102, 101, 112, 109]⟩ : ByteArray)) []) (
                  .node (k == 116) (
                   .leaf (S (⟨#[102, 79, 99]⟩ : ByteArray)) []) (
                   .node (k == 117) (
                    .leaf (S (⟨#[100]⟩ : ByteArray)) []) (
                    .node (k == 118) (
                     .leaf (S (⟨#[102, 79, 100]⟩ : ByteArray)) []) (
                     .node (k == 119) (
                      .leaf (S (⟨#[99]⟩ : ByteArray)) []) (
                      .node (k == 120) (
                       .leaf (S (⟨#[102]⟩ : ByteArray)) []) (
                       .node (k == 122) (
                        .leaf (S (⟨#[102]⟩ : ByteArray)) []) (
                        .node (k == 124) (
                         .leaf (S (⟨#[102]⟩ : ByteArray)) []) (
                         .node (k == 125) (
                          .leaf (S (⟨#[115]⟩ : ByteArray)) []) (
                          .node (k == 126) (
                           .leaf (S (⟨#[102, 115]⟩ : ByteArray)) []) (
                           .node (k == 128) (
                            .leaf (S (⟨#[102, 108, 84]⟩ : ByteArray)) []) (
                            .node (k == 129) (
                             .leaf (S (⟨#[113, 108, 84]⟩ : ByteArray)) []) (
                             .node (k == 130) (
                              .leaf (S (⟨#[83]⟩ : ByteArray)) []) (
                              .leaf (S (⟨#[]⟩ : ByteArray)) [])))))))))))))))))))))))))))) (by kernel_rfl) (by simp +contextual [Tr.All, AllP, fieldsS])

def d34 : List PV → Option (PV × List Prop)
  | [.sc (.int .i64 k)] => some (S (fieldsS k), [])
  | _ => none
def d44 : List PV → Option (PV × List Prop)
  | [.sc (.int .i64 n)] => some (I (inE n 0 4294967294), [])
  | _ => none
def d48 : List PV → Option (PV × List Prop)
  | [.sc (.string s)] => some (I (if validS s then 0 else 6), [])
  | _ => none

def Ed : Env := addE 34 d34 (addE 44 d44 (addE 48 d48 (addE 15 d14 Ec)))
theorem Ed_ok : EnvOk P Ed :=
  addE_ok (addE_ok (addE_ok (addE_ok Ec_ok
    (fun l r ob h ho => by unfold d14 at h; split at h <;> cases h; exact rreply_ok _))
    (fun l r ob h ho => by unfold d48 at h; split at h <;> cases h; exact named_ok _))
    (fun l r ob h ho => by unfold d44 at h; split at h <;> cases h; exact fid_ok _))
    (fun l r ob h ho => by unfold d34 at h; split at h <;> cases h; exact fields34_ok _)
end Go.Proofs.Ytnkmcmflfedmkaa
