/- TieF. -/
import Derived.Test.YtnpcbfcfcjdhlaaGreatDoorRows
import Derived.LaidByTextLater
import Derived.SevenTiedAt
namespace Go.Proofs.YtnpcbfcfcjdhlaaGreatDoor
section
open Go
def aq7:List (String×DataW Unit):=[("unicode/utf8.acceptRanges",Rows.laid_unicode_utf8_acceptRanges),("filespace/hash.rounds",Rows.laid_filespace_hash_rounds),("internal/strconv.uint64pow10",Rows.laid_internal_strconv_uint64pow10),("math/bits.deBruijn32tab",Rows.laid_math_bits_deBruijn32tab),("math/bits.deBruijn64tab",Rows.laid_math_bits_deBruijn64tab)]
theorem aq8:aq7.map (fun x=>Tryz.prog.kindOfLater x.1)=([.data,.data,.data,.data,.data]:List LaidKind).map some:=by kernel_rfl
theorem aq9:varsNamedLaterB Tryz.prog 638 aq7=true:=by kernel_rfl
theorem bb2:∀os tape,varsDone Tryz.prog 400 638 os tape=true:=fun _ _=>by kernel_rfl
theorem bb3:∀os tape,(DataW.laidRun Tryz.prog (varsWorld Tryz.prog 400 638 os tape).memory 8 (aq7.map (·.1))).map (·.1)=some aq7:=fun _ _=>by kernel_rfl
theorem b51:∀os tape,(DataW.laidRun Tryz.prog (varsWorld Tryz.prog 400 638 os tape).memory 8 (aq7.map (·.1))).map (fun x=>decide x.2.Nodup&&laidRowsB Tryz.prog (varsWorld Tryz.prog 400 638 os tape).memory x.2)=some true:=fun _ _=>by kernel_rfl
