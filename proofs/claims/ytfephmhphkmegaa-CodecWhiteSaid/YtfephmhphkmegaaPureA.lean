/- The codec's functions on short strings, and the documented examples. -/
import Derived.Test.YtfephmhphkmegaaPAx1
import Derived.Test.YtfephmhphkmegaaPlainC
namespace Go.Proofs.Ytfephmhphkmegaa.Pure
open Go.RowKit Go.Proofs.Ytfephmhphkmegaa.PA Go.Proofs.YtfephmhphkmegaaW.PrintWords Go.Proofs.YtfephmhphkmegaaW.PrintLast
open Go.Proofs.Ytfephmhphkmegaa.Hd (dl dl_length toList_dl dl_drop dl_at ba_ext bt_u)
set_option linter.unusedVariables false
set_option linter.unusedSimpArgs false
def mk (l : List UInt8) : ByteArray := ⟨l.toArray⟩
theorem dl_mk (l : List UInt8) : dl (mk l) = l := by simp [mk, dl]
theorem mk_dl (s : ByteArray) : mk (dl s) = s := ba_ext (dl_mk _)
theorem size_mk (l : List UInt8) : (mk l).size = l.length := by rw [← dl_length, dl_mk]
theorem base64_eq (s : ByteArray) (h : s.size ≤ 100000000) : codec_Base64.f s = some (mk (Pl.b64 (dl s) 0)) := by rw [codec_Base64.f, if_pos h]; rfl
theorem quoted_eq (s : ByteArray) (h : s.size ≤ 100000000) : codec_Quoted.f s = some (mk (Pl.quo (dl s) 0)) := by rw [codec_Quoted.f, if_pos h]; rfl
theorem unbase64_eq (s : ByteArray) (h : s.size ≤ 100000000) : codec_Unbase64.f s = some (mk (Pl.unbase (dl s)).1, (Pl.unbase (dl s)).2) := by rw [codec_Unbase64.f, if_pos h]; rfl
theorem unquoted_eq (s : ByteArray) (h : s.size ≤ 100000000) : codec_Unquoted.f s = some (mk (Pl.unq (dl s) 0).1, (Pl.unq (dl s) 0).2) := by rw [codec_Unquoted.f, if_pos h]; rfl
theorem unpercent_eq (s : ByteArray) (h : s.size ≤ 100000000) : codec_Unpercent.f s = some (mk (Pl.unper (dl s) 0).1, (Pl.unper (dl s) 0).2) := by rw [codec_Unpercent.f, if_pos h]; rfl
theorem small_true : missivelaw07_small.f = some true := by
  unfold missivelaw07_small.f
  simp only [ByteArray.toList_eq]
  decide +kernel
end Go.Proofs.Ytfephmhphkmegaa.Pure
