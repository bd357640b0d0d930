/- For codec.Unbase64: the table of digits' values, the words put together, the padding. -/
import Derived.Test.YtfephmhphkmegaaHandH
import Derived.Test.YtfephmhphkmegaaHandJ
namespace Go.Proofs.Ytfephmhphkmegaa.Hd
open Go.RowKit Go.Maps Go.Proofs.YtfephmhphkmegaaW.PrintWords Go.Proofs.YtfephmhphkmegaaW.PrintLast Go.Proofs.YtfephmhphkmegaaW.PrintMore
set_option linter.unusedVariables false
set_option linter.unusedSimpArgs false

theorem b64tab_calls (w : World) : Calls Try.prog 24 #[.string digC] w fun e w' => e = .returned (.map (some w.heap.size)) ∧ IsTab w' w.heap.size 64 Pl.val64 ∧ Below w.heap.size w w' := by
  refine (valuesOf_calls digC (by decide) w).mono ?_
  rintro e w' ⟨rfl, hT, hB⟩
  refine ⟨rfl, ?_, hB⟩
  have e : fOf digC.data.toList 64 = Pl.val64 := funext fOf_val
  rw [← e]
  exact hT
theorem join_flat : ∀ (l : List (List UInt8)), Lib.join l [] = l.flatten := by
  intro l
  cases l with
  | nil => rfl
  | cons x r => rw [Lib.join_cons]; simp [Lib.joinTail]
/-- strings.Join of the words, with nothing between them. -/
theorem join_c (v : Value) (ys : List ByteArray) (base : Nat) (w : World) (hb : base ≤ w.heap.size) (hrow : w.ownsRow base 9 1 v ys.length (ys.map Value.string)) (hnil : v = .slice none 0 0 ↔ ys = []) (hN : ys.length ≤ 100000000) (hF : ((ys.map dl).flatten).length ≤ 100000000) :
    Calls Try.prog 26 #[v, .string ⟨#[]⟩] w fun e w' => e = .returned (.string ⟨((ys.map dl).flatten).toArray⟩) ∧ Below w.heap.size w w' := by
  by_cases h : ys = []
  · obtain rfl := hnil.2 h
    subst h
    refine (Try.strings_Join_none none 0 _ w).mono ?_
    rintro e w' ⟨rfl, rfl⟩
    exact ⟨rfl, Below.refl _ _⟩
  · obtain ⟨g, cap, rfl⟩ := Joins.ownsRow_form hrow (List.length_pos_iff.2 h)
    have hcell : ∀ (j : Nat) x, ys[j]? = some x → w.cell? ⟨g, 0 + j, none⟩ = some (.string x) := by
      intro j x hj
      have := (World.ownsRowF_of hrow).cells (g := g) rfl j (.string x) (by rw [List.getElem?_map, hj]; rfl)
      have e : (⟨g, 0, none⟩ : Addr).add j = ⟨g, 0 + j, none⟩ := by (simp [Addr.add]; exact fun h => h.symm)
      rw [← e]
      exact this
    have hg : g < w.heap.size := (hrow.lt g rfl).2
    have hcap : ys.length ≤ cap := by
      rcases hrow.2 with ⟨h1, _⟩ | ⟨g', cap', cur, hv, _, _, hle, _⟩
      · cases h1
      · cases hv
        exact hle
    have e : ys.map (fun x => x.data.toList) = ys.map dl := rfl
    have := Try.strings_Join g 0 cap ys ⟨#[]⟩ w hcell hg (by omega) hcap (by rw [e, show (⟨#[]⟩ : ByteArray).data.toList = [] from rfl, join_flat]; omega)
    rw [e, show (⟨#[]⟩ : ByteArray).data.toList = [] from rfl, join_flat] at this
    exact this
theorem rep_c (m : Nat) (h : m ≤ 2) (w : World) : Calls Try.prog 28 #[.string ⟨#[61]⟩, .int .i64 (m : Int)] w fun e w' => e = .returned (.string ⟨(List.replicate m (61 : UInt8)).toArray⟩) ∧ Below w.heap.size w w' := by
  have := Try.strings_Repeat ⟨#[61]⟩ m w (by omega) (by show 1 * m ≤ _; omega)
  obtain rfl | rfl | rfl : m = 0 ∨ m = 1 ∨ m = 2 := by omega
  all_goals exact this
end Go.Proofs.Ytfephmhphkmegaa.Hd
