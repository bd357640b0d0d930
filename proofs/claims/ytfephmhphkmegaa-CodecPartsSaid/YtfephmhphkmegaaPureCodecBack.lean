/- CodecBack: each of the three encodings is decoded to the string that went in, without complaint. -/
import Derived.Test.YtfephmhphkmegaaPAx3
import Derived.Test.YtfephmhphkmegaaPureA
namespace Go.Proofs.Ytfephmhphkmegaa.Pure
open Go.RowKit Go.Proofs.Ytfephmhphkmegaa.PA Go.Proofs.YtfephmhphkmegaaW.PrintWords Go.Proofs.YtfephmhphkmegaaW.PrintLast
open Go.Proofs.Ytfephmhphkmegaa.Hd (dl dl_length toList_dl dl_drop dl_at ba_ext bt_u)
set_option linter.unusedVariables false
set_option linter.unusedSimpArgs false
theorem percent_eq (s : ByteArray) (h : s.size ≤ 100000000) : codec_Percent.f s = some (mk (Pl.per (dl s))) := by rw [codec_Percent.f, if_pos h]; rfl

theorem CodecBack : missivelaw07_CodecBack.Pure := by
  intro a0 h
  unfold missivelaw07_CodecBack.f
  rw [small_true, Option.bind_some]
  by_cases hs : (a0.size : Int) > 2000
  · rw [if_pos hs]
  · have hl := dl_length a0
    have h1 := Pl.b64_len (dl a0) 0
    have h2 := Pl.quo_len (dl a0) 0
    have h3 := Pl.per_len (dl a0)
    rw [if_neg hs, base64_eq _ (by omega), Option.bind_some, unbase64_eq _ (by rw [size_mk]; omega), Option.bind_some, quoted_eq _ (by omega), Option.bind_some, unquoted_eq _ (by rw [size_mk]; omega), Option.bind_some,
      percent_eq _ (by omega), Option.bind_some, unpercent_eq _ (by rw [size_mk]; omega), Option.bind_some]
    simp only [dl_mk, Pl.back64, Pl.backQ, Pl.backPer, mk_dl]
    simp
end Go.Proofs.Ytfephmhphkmegaa.Pure
