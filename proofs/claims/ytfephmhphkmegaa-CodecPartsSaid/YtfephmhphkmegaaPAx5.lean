-- Printed by a program of this session (printx.py) that runs the kit's print.py with texts of this session in the place of some functions; Lean checks it.
import Derived.Test.YtfephmhphkmegaaPAx0
import Derived.Test.YtfephmhphkmegaaPAx1
import Derived.Test.YtfephmhphkmegaaPAx3
import Derived.Test.YtfephmhphkmegaaPAx4
namespace Go.Proofs.Ytfephmhphkmegaa.PA
open Go.RowKit Go.Proofs.YtfephmhphkmegaaW.PrintWords Go.Proofs.YtfephmhphkmegaaW.PrintLast Go.Proofs.YtfephmhphkmegaaW.PrintMore
attribute [local go_sem] max2_int min2_int max_two min_two max_three min_three max_four min_four   -- for this text's walks alone
set_option linter.unusedVariables false
set_option linter.unusedSimpArgs false

/-! ### missivelaw07_CodecParts: function 7 -/
mutual
def missivelaw07_CodecParts.j0 : Nat → ByteArray → ByteArray → Bool → Bool → Option (Bool)
  | 0, _, _, _, _ => none
  | k + 1, x0, x1, x5, x15 => if x15 = true then (some x5) else (if x0.size + x1.size ≤ 9223372036854775807 then ((codec_Percent.f (x0 ++ x1)).bind fun t238 => ((codec_Percent.f x0).bind fun t239 => ((codec_Percent.f x1).bind fun t240 => (if t239.size + t240.size ≤ 9223372036854775807 then (if t238.toList = (t239 ++ t240).toList then (if x0.size + 1 ≤ 9223372036854775807 then (if x0.size + 1 + x1.size ≤ 9223372036854775807 then ((codec_Quoted.f ((x0 ++ (⟨#[10]⟩ : ByteArray)) ++ x1)).bind fun t241 => ((codec_Quoted.f x0).bind fun t242 => (if t242.size + 1 ≤ 9223372036854775807 then ((codec_Quoted.f x1).bind fun t243 => (if t242.size + 1 + t243.size ≤ 9223372036854775807 then (missivelaw07_CodecParts.j1 k x0 x1 x5 (t241.toList != ((t242 ++ (⟨#[10]⟩ : ByteArray)) ++ t243).toList)) else (none))) else (none)))) else (none)) else (none)) else (missivelaw07_CodecParts.j1 k x0 x1 x5 true)) else (none))))) else (none))
def missivelaw07_CodecParts.j1 : Nat → ByteArray → ByteArray → Bool → Bool → Option (Bool)
  | 0, _, _, _, _ => none
  | k + 1, x0, x1, x5, x40 => if x40 = true then (some false) else (if ((x0.size : Int) % 3) = 0 then ((codec_Base64.f x0).bind fun t244 => ((missiveref01_Lines.f k t244).bind fun t245 => ((missiveref01_Join.f k t245 (⟨#[]⟩ : ByteArray)).bind fun t248 => ((codec_Base64.f x1).bind fun t249 => ((missiveref01_Lines.f k t249).bind fun t250 => ((missiveref01_Join.f k t250 (⟨#[]⟩ : ByteArray)).bind fun t253 => (if t248.size + t253.size ≤ 9223372036854775807 then (if x5 = true then (if x0.size + x1.size ≤ 9223372036854775807 then ((codec_Base64.f (x0 ++ x1)).bind fun t254 => ((missiveref01_Lines.f k t254).bind fun t255 => ((missiveref01_Join.f k t255 (⟨#[]⟩ : ByteArray)).bind fun t258 => (some (t258.toList == (t248 ++ t253).toList))))) else (none)) else (some false)) else (none)))))))) else (some x5))
end
def missivelaw07_CodecParts.f (k : Nat) (a0 : ByteArray) (a1 : ByteArray) : Option (Bool) := (missivelaw07_small.f).bind fun t237 => (if (a0.size : Int) > 500 then (missivelaw07_CodecParts.j0 k a0 a1 t237 true) else (missivelaw07_CodecParts.j0 k a0 a1 t237 (decide ((a1.size : Int) > 500))))
theorem missivelaw07_CodecParts.mono_l : ∀ k, (∀ y0 y1 y2 y3, LeO (missivelaw07_CodecParts.j0 k y0 y1 y2 y3) (missivelaw07_CodecParts.j0 (k + 1) y0 y1 y2 y3)) ∧ (∀ y0 y1 y2 y3, LeO (missivelaw07_CodecParts.j1 k y0 y1 y2 y3) (missivelaw07_CodecParts.j1 (k + 1) y0 y1 y2 y3))
  | 0 => ⟨fun _ _ _ _ r h => by simp [missivelaw07_CodecParts.j0] at h, fun _ _ _ _ r h => by simp [missivelaw07_CodecParts.j1] at h⟩
  | k + 1 => by
    obtain ⟨ih0, ih1⟩ := missivelaw07_CodecParts.mono_l k
    refine ⟨?_, ?_⟩
    · intro y0 y1 y2 y3
      unfold missivelaw07_CodecParts.j0
      repeat' first
      | (with_reducible exact ih0 _ _ _ _)
      | (with_reducible exact ih1 _ _ _ _)
      | (with_reducible exact missiveref01_Join.mono _ _ _)
      | (with_reducible exact missiveref01_Lines.mono _ _)
      | (with_reducible exact LeO.refl _)
      | (with_reducible exact LeO.none _)
      | (with_reducible refine LeO.ite ?_ ?_)
      | (with_reducible refine LeO.bind ?_ (fun _ => ?_))
      | exact ih0 _ _ _ _
      | exact ih1 _ _ _ _
      | exact missiveref01_Join.mono _ _ _
      | exact missiveref01_Lines.mono _ _
      | exact LeO.none _
      | refine LeO.ite ?_ ?_
      | refine LeO.bind ?_ (fun _ => ?_)
    · intro y0 y1 y2 y3
      unfold missivelaw07_CodecParts.j1
      repeat' first
      | (with_reducible exact ih0 _ _ _ _)
      | (with_reducible exact ih1 _ _ _ _)
      | (with_reducible exact missiveref01_Join.mono _ _ _)
      | (with_reducible exact missiveref01_Lines.mono _ _)
      | (with_reducible exact LeO.refl _)
      | (with_reducible exact LeO.none _)
      | (with_reducible refine LeO.ite ?_ ?_)
      | (with_reducible refine LeO.bind ?_ (fun _ => ?_))
      | exact ih0 _ _ _ _
      | exact ih1 _ _ _ _
      | exact missiveref01_Join.mono _ _ _
      | exact missiveref01_Lines.mono _ _
      | exact LeO.none _
      | refine LeO.ite ?_ ?_
      | refine LeO.bind ?_ (fun _ => ?_)
theorem missivelaw07_CodecParts.mono : ∀ a0 a1 k, LeO (missivelaw07_CodecParts.f k a0 a1) (missivelaw07_CodecParts.f (k + 1) a0 a1) := by
  intro a0 a1 k
  obtain ⟨ih0, ih1⟩ := missivelaw07_CodecParts.mono_l k
  unfold missivelaw07_CodecParts.f
  repeat' first
      | (with_reducible exact ih0 _ _ _ _)
      | (with_reducible exact ih1 _ _ _ _)
      | (with_reducible exact missiveref01_Join.mono _ _ _)
      | (with_reducible exact missiveref01_Lines.mono _ _)
      | (with_reducible exact LeO.refl _)
      | (with_reducible exact LeO.none _)
      | (with_reducible refine LeO.ite ?_ ?_)
      | (with_reducible refine LeO.bind ?_ (fun _ => ?_))
      | exact ih0 _ _ _ _
      | exact ih1 _ _ _ _
      | exact missiveref01_Join.mono _ _ _
      | exact missiveref01_Lines.mono _ _
      | exact LeO.none _
      | refine LeO.ite ?_ ?_
      | refine LeO.bind ?_ (fun _ => ?_)
set_option maxHeartbeats 8000000 in
set_option maxRecDepth 100000 in
theorem missivelaw07_CodecParts.calls (k : Nat) (a0 : ByteArray) (a1 : ByteArray) (r : Bool) (w : World) (h : missivelaw07_CodecParts.f k a0 a1 = some r) :
    Calls Try.prog 7 #[.string a0, .string a1] w fun e w' => e = .returned (.bool r) ∧ Below w.heap.size w w' := by
  have HB := Aside0.mk (Below.refl w.heap.size w)
  have H : ((missivelaw07_small.f).bind fun t237 => (if (a0.size : Int) > 500 then (missivelaw07_CodecParts.j0 k a0 a1 t237 true) else (missivelaw07_CodecParts.j0 k a0 a1 t237 (decide ((a1.size : Int) > 500))))) = some r := h
  clear h
  replace H := Option.bind_eq_some_iff.mp H
  obtain ⟨t237, A30, H⟩ := H
  replace H : (if (a0.size : Int) > 500 then (missivelaw07_CodecParts.j0 k a0 a1 t237 true) else (missivelaw07_CodecParts.j0 k a0 a1 t237 (decide ((a1.size : Int) > 500)))) = some r := H
  have A3 := Aside0.mk A30
  clear A30
  have HC4 := Aside0.mk H
  clear H
  go_enter Try.func7, Try.ntmps7
  go_upto_region 2 with (first | ((with_reducible refine gate_callee (f := 8) rfl ?_); refine goesL_ (some 7) rfl rfl Try.func8 (by kernel_rfl) rfl #[] rfl (by (try simp only [List.map_toArray, List.map_cons, List.map_nil]); first | done | rfl | (simp only [List.length_drop, List.length_take]; rfl)) ?_; (with_reducible refine (missivelaw07_small.calls  t237 _ A3.out).mono ?_); rintro e w5 ⟨rfl, hb⟩; refine ⟨_, rfl, ?_⟩; have n0_ := Aside0.mk (below_step (by repeat (first | (with_reducible first | exact HB.out | apply below_alloc | apply pw_below_drewN | apply below_drew1) | exact HB.out)) hb); clear HB; have HB := n0_; clear n0_; (try clear hb); (try clear hb2); (try clear hk); (try clear hi)))
  (try simp only [Act.put, List.setIfInBounds_toArray, List.set_cons_zero, List.set_cons_succ])
  go_cut [15] (fun v15 wc => ∃ (kq : Nat) (x15_3 : Bool), v15 = .bool x15_3 ∧ Aside0 (missivelaw07_CodecParts.j0 kq a0 a1 t237 x15_3 = some r) ∧ Aside0 (kq ≤ k) ∧ Aside0 (Below w.heap.size w wc))
  case first =>
    have H := HC4.out
    clear HC4
    by_cases c6 : (a0.size : Int) > 500
    · rw [if_pos c6] at H
      have c6b0 : decide (500 < (a0.size : Int)) = true := decide_eq_true c6
      have c6b1 : decide (500 < a0.size) = true := decide_eq_true (by omega)
      clear c6
      (first | rw [c6b0] | (simp only [i64_w, i32_w]; rw [c6b0]) | skip)
      have H' := Aside0.mk H
      clear H
      go_wp2
      go_meet
      case rel => exact ⟨_, (true), (by first | rfl | (simp; done) | (simp [*]; done)), H', ⟨by first | omega | exact Nat.le_refl _⟩, ⟨by repeat (first | (with_reducible first | exact HB.out | apply below_alloc | apply pw_below_drewN | apply below_drew1) | exact HB.out)⟩⟩
    · rw [if_neg c6] at H
      have c6b0 : decide (500 < (a0.size : Int)) = false := decide_eq_false c6
      have c6b1 : decide (500 < a0.size) = false := decide_eq_false (by omega)
      clear c6
      (first | rw [c6b0] | (simp only [i64_w, i32_w]; rw [c6b0]) | skip)
      have H' := Aside0.mk H
      clear H
      go_wp2
      go_meet
      case rel => exact ⟨_, (decide ((a1.size : Int) > 500)), (by first | rfl | (simp; done) | (simp [*]; done)), H', ⟨by first | omega | exact Nat.le_refl _⟩, ⟨by repeat (first | (with_reducible first | exact HB.out | apply below_alloc | apply pw_below_drewN | apply below_drew1) | exact HB.out)⟩⟩
  case rest =>
    clear HC4
    try clear p2
    try clear c6
    try clear c6b0
    try clear c6b1
    obtain ⟨kq, x15_3, rfl, HA, HJ3, HB⟩ := hcut
    cases kq with
    | zero => exact absurd HA.out (by simp [missivelaw07_CodecParts.j0])
    | succ kj3 =>
      have H := HA.out
      clear HA
      simp only [missivelaw07_CodecParts.j0] at H
      by_cases c7 : x15_3 = true
      · subst c7
        have H1 : (some t237) = some r := by rw [if_pos rfl] at H; exact H
        clear H
        have H := H1
        clear H1
        obtain rfl := Option.some.inj H
        go_wp2
        go_ret
        exact ⟨by first | rfl | (simp [errW_none, errW_some] <;> rfl) | (simp [*, errW_none, errW_some] <;> rfl), by repeat (first | (with_reducible first | exact HB.out | apply below_alloc | apply pw_below_drewN | apply below_drew1) | exact HB.out)⟩
      · replace c7 := Bool.eq_false_iff.mpr c7
        subst c7
        have H1 : (if a0.size + a1.size ≤ 9223372036854775807 then ((codec_Percent.f (a0 ++ a1)).bind fun t238 => ((codec_Percent.f a0).bind fun t239 => ((codec_Percent.f a1).bind fun t240 => (if t239.size + t240.size ≤ 9223372036854775807 then (if t238.toList = (t239 ++ t240).toList then (if a0.size + 1 ≤ 9223372036854775807 then (if a0.size + 1 + a1.size ≤ 9223372036854775807 then ((codec_Quoted.f ((a0 ++ (⟨#[10]⟩ : ByteArray)) ++ a1)).bind fun t241 => ((codec_Quoted.f a0).bind fun t242 => (if t242.size + 1 ≤ 9223372036854775807 then ((codec_Quoted.f a1).bind fun t243 => (if t242.size + 1 + t243.size ≤ 9223372036854775807 then (missivelaw07_CodecParts.j1 kj3 a0 a1 t237 (t241.toList != ((t242 ++ (⟨#[10]⟩ : ByteArray)) ++ t243).toList)) else (none))) else (none)))) else (none)) else (none)) else (missivelaw07_CodecParts.j1 kj3 a0 a1 t237 true)) else (none))))) else (none)) = some r := by rw [if_neg (show ¬ (false = true) by decide)] at H; exact H
        clear H
        have H := H1
        clear H1
        have HC8 := Aside0.mk H
        clear H
        go_upto_region 4 with (fail)
        go_cut [40] (fun v40 wc => ∃ (kq : Nat) (x40_7 : Bool), v40 = .bool x40_7 ∧ Aside0 (missivelaw07_CodecParts.j1 kq a0 a1 t237 x40_7 = some r) ∧ Aside0 (kq ≤ kj3) ∧ Aside0 (Below w.heap.size w wc))
        case first =>
          have H := HC8.out
          clear HC8
          by_cases c9 : a0.size + a1.size ≤ 9223372036854775807
          · rw [if_pos c9] at H
            have c9b0 := eq_true c9
            have c9b1 : decide (a0.size + a1.size ≤ 9223372036854775807) = true := decide_eq_true c9
            try have c9b2 : (9223372036854775807 < a0.size + a1.size) = False := eq_false (Nat.not_lt.2 c9)
            replace H := Option.bind_eq_some_iff.mp H
            obtain ⟨t238, A100, H⟩ := H
            replace H : ((codec_Percent.f a0).bind fun t239 => ((codec_Percent.f a1).bind fun t240 => (if t239.size + t240.size ≤ 9223372036854775807 then (if t238.toList = (t239 ++ t240).toList then (if a0.size + 1 ≤ 9223372036854775807 then (if a0.size + 1 + a1.size ≤ 9223372036854775807 then ((codec_Quoted.f ((a0 ++ (⟨#[10]⟩ : ByteArray)) ++ a1)).bind fun t241 => ((codec_Quoted.f a0).bind fun t242 => (if t242.size + 1 ≤ 9223372036854775807 then ((codec_Quoted.f a1).bind fun t243 => (if t242.size + 1 + t243.size ≤ 9223372036854775807 then (missivelaw07_CodecParts.j1 kj3 a0 a1 t237 (t241.toList != ((t242 ++ (⟨#[10]⟩ : ByteArray)) ++ t243).toList)) else (none))) else (none)))) else (none)) else (none)) else (missivelaw07_CodecParts.j1 kj3 a0 a1 t237 true)) else (none)))) = some r := H
            have A10 := Aside0.mk A100
            clear A100
            replace H := Option.bind_eq_some_iff.mp H
            obtain ⟨t239, A110, H⟩ := H
            replace H : ((codec_Percent.f a1).bind fun t240 => (if t239.size + t240.size ≤ 9223372036854775807 then (if t238.toList = (t239 ++ t240).toList then (if a0.size + 1 ≤ 9223372036854775807 then (if a0.size + 1 + a1.size ≤ 9223372036854775807 then ((codec_Quoted.f ((a0 ++ (⟨#[10]⟩ : ByteArray)) ++ a1)).bind fun t241 => ((codec_Quoted.f a0).bind fun t242 => (if t242.size + 1 ≤ 9223372036854775807 then ((codec_Quoted.f a1).bind fun t243 => (if t242.size + 1 + t243.size ≤ 9223372036854775807 then (missivelaw07_CodecParts.j1 kj3 a0 a1 t237 (t241.toList != ((t242 ++ (⟨#[10]⟩ : ByteArray)) ++ t243).toList)) else (none))) else (none)))) else (none)) else (none)) else (missivelaw07_CodecParts.j1 kj3 a0 a1 t237 true)) else (none))) = some r := H
            have A11 := Aside0.mk A110
            clear A110
            replace H := Option.bind_eq_some_iff.mp H
            obtain ⟨t240, A120, H⟩ := H
            replace H : (if t239.size + t240.size ≤ 9223372036854775807 then (if t238.toList = (t239 ++ t240).toList then (if a0.size + 1 ≤ 9223372036854775807 then (if a0.size + 1 + a1.size ≤ 9223372036854775807 then ((codec_Quoted.f ((a0 ++ (⟨#[10]⟩ : ByteArray)) ++ a1)).bind fun t241 => ((codec_Quoted.f a0).bind fun t242 => (if t242.size + 1 ≤ 9223372036854775807 then ((codec_Quoted.f a1).bind fun t243 => (if t242.size + 1 + t243.size ≤ 9223372036854775807 then (missivelaw07_CodecParts.j1 kj3 a0 a1 t237 (t241.toList != ((t242 ++ (⟨#[10]⟩ : ByteArray)) ++ t243).toList)) else (none))) else (none)))) else (none)) else (none)) else (missivelaw07_CodecParts.j1 kj3 a0 a1 t237 true)) else (none)) = some r := H
            have A12 := Aside0.mk A120
            clear A120
            by_cases c13 : t239.size + t240.size ≤ 9223372036854775807
            · rw [if_pos c13] at H
              have c13b0 := eq_true c13
              have c13b1 : decide (t239.size + t240.size ≤ 9223372036854775807) = true := decide_eq_true c13
              try have c13b2 : (9223372036854775807 < t239.size + t240.size) = False := eq_false (Nat.not_lt.2 c13)
              by_cases c14 : t238.toList = (t239 ++ t240).toList
              · rw [if_pos c14] at H
                have c14b0 : (t238.toList == (t239 ++ t240).toList) = true := beq_iff_eq.mpr c14
                have c14b1 : (t238.toList != (t239 ++ t240).toList) = false := bne_eq_false_iff_eq.mpr c14
                clear c14
                (first | rw [c14b0] | (simp only [i64_w, i32_w]; rw [c14b0]) | skip)
                by_cases c15 : a0.size + 1 ≤ 9223372036854775807
                · rw [if_pos c15] at H
                  have c15b0 := eq_true c15
                  have c15b1 : decide (a0.size + 1 ≤ 9223372036854775807) = true := decide_eq_true c15
                  try have c15b2 : (9223372036854775807 < a0.size + 1) = False := eq_false (Nat.not_lt.2 c15)
                  by_cases c16 : a0.size + 1 + a1.size ≤ 9223372036854775807
                  · rw [if_pos c16] at H
                    have c16b0 := eq_true c16
                    have c16b1 : decide (a0.size + 1 + a1.size ≤ 9223372036854775807) = true := decide_eq_true c16
                    try have c16b2 : (9223372036854775807 < a0.size + 1 + a1.size) = False := eq_false (Nat.not_lt.2 c16)
                    replace H := Option.bind_eq_some_iff.mp H
                    obtain ⟨t241, A170, H⟩ := H
                    replace H : ((codec_Quoted.f a0).bind fun t242 => (if t242.size + 1 ≤ 9223372036854775807 then ((codec_Quoted.f a1).bind fun t243 => (if t242.size + 1 + t243.size ≤ 9223372036854775807 then (missivelaw07_CodecParts.j1 kj3 a0 a1 t237 (t241.toList != ((t242 ++ (⟨#[10]⟩ : ByteArray)) ++ t243).toList)) else (none))) else (none))) = some r := H
                    have A17 := Aside0.mk A170
                    clear A170
                    replace H := Option.bind_eq_some_iff.mp H
                    obtain ⟨t242, A180, H⟩ := H
                    replace H : (if t242.size + 1 ≤ 9223372036854775807 then ((codec_Quoted.f a1).bind fun t243 => (if t242.size + 1 + t243.size ≤ 9223372036854775807 then (missivelaw07_CodecParts.j1 kj3 a0 a1 t237 (t241.toList != ((t242 ++ (⟨#[10]⟩ : ByteArray)) ++ t243).toList)) else (none))) else (none)) = some r := H
                    have A18 := Aside0.mk A180
                    clear A180
                    by_cases c19 : t242.size + 1 ≤ 9223372036854775807
                    · rw [if_pos c19] at H
                      have c19b0 := eq_true c19
                      have c19b1 : decide (t242.size + 1 ≤ 9223372036854775807) = true := decide_eq_true c19
                      try have c19b2 : (9223372036854775807 < t242.size + 1) = False := eq_false (Nat.not_lt.2 c19)
                      replace H := Option.bind_eq_some_iff.mp H
                      obtain ⟨t243, A200, H⟩ := H
                      replace H : (if t242.size + 1 + t243.size ≤ 9223372036854775807 then (missivelaw07_CodecParts.j1 kj3 a0 a1 t237 (t241.toList != ((t242 ++ (⟨#[10]⟩ : ByteArray)) ++ t243).toList)) else (none)) = some r := H
                      have A20 := Aside0.mk A200
                      clear A200
                      by_cases c21 : t242.size + 1 + t243.size ≤ 9223372036854775807
                      · rw [if_pos c21] at H
                        have c21b0 := eq_true c21
                        have c21b1 : decide (t242.size + 1 + t243.size ≤ 9223372036854775807) = true := decide_eq_true c21
                        try have c21b2 : (9223372036854775807 < t242.size + 1 + t243.size) = False := eq_false (Nat.not_lt.2 c21)
                        have H' := Aside0.mk H
                        clear H
                        go_wp2_with (first | ((with_reducible refine gate_callee (f := 16) rfl ?_); refine goesL_ (some 20) rfl rfl Try.func16 (by kernel_rfl) rfl #[.string (a0 ++ a1)] rfl (by (try simp only [List.map_toArray, List.map_cons, List.map_nil]); first | done | rfl | (simp only [List.length_drop, List.length_take]; rfl)) ?_; (with_reducible refine (codec_Percent.calls (a0 ++ a1) t238 _ A10.out).mono ?_); rintro e w22 ⟨rfl, hb⟩; refine ⟨_, rfl, ?_⟩; have n0_ := Aside0.mk (below_step (by repeat (first | (with_reducible first | exact HB.out | apply below_alloc | apply pw_below_drewN | apply below_drew1) | exact HB.out)) hb); clear HB; have HB := n0_; clear n0_; (try clear hb); (try clear hb2); (try clear hk); (try clear hi)) | ((with_reducible refine gate_callee (f := 16) rfl ?_); refine goesL_ (some 22) rfl rfl Try.func16 (by kernel_rfl) rfl #[.string a0] rfl (by (try simp only [List.map_toArray, List.map_cons, List.map_nil]); first | done | rfl | (simp only [List.length_drop, List.length_take]; rfl)) ?_; (with_reducible refine (codec_Percent.calls a0 t239 _ A11.out).mono ?_); rintro e w23 ⟨rfl, hb⟩; refine ⟨_, rfl, ?_⟩; have n0_ := Aside0.mk (below_step (by repeat (first | (with_reducible first | exact HB.out | apply below_alloc | apply pw_below_drewN | apply below_drew1) | exact HB.out)) hb); clear HB; have HB := n0_; clear n0_; (try clear hb); (try clear hb2); (try clear hk); (try clear hi)) | ((with_reducible refine gate_callee (f := 16) rfl ?_); refine goesL_ (some 24) rfl rfl Try.func16 (by kernel_rfl) rfl #[.string a1] rfl (by (try simp only [List.map_toArray, List.map_cons, List.map_nil]); first | done | rfl | (simp only [List.length_drop, List.length_take]; rfl)) ?_; (with_reducible refine (codec_Percent.calls a1 t240 _ A12.out).mono ?_); rintro e w24 ⟨rfl, hb⟩; refine ⟨_, rfl, ?_⟩; have n0_ := Aside0.mk (below_step (by repeat (first | (with_reducible first | exact HB.out | apply below_alloc | apply pw_below_drewN | apply below_drew1) | exact HB.out)) hb); clear HB; have HB := n0_; clear n0_; (try clear hb); (try clear hb2); (try clear hk); (try clear hi)) | (go_at_call 15; (with_reducible refine (codec_Quoted.calls ((a0 ++ (⟨#[10]⟩ : ByteArray)) ++ a1) t241 _ A17.out).mono ?_); rintro e w25 ⟨rfl, hb⟩; have n0_ := Aside0.mk (below_step (by repeat (first | (with_reducible first | exact HB.out | apply below_alloc | apply pw_below_drewN | apply below_drew1) | exact HB.out)) hb); clear HB; have HB := n0_; clear n0_; (try clear hb); (try clear hb2); (try clear hk); (try clear hi)) | (go_at_call 15; (with_reducible refine (codec_Quoted.calls a0 t242 _ A18.out).mono ?_); rintro e w26 ⟨rfl, hb⟩; have n0_ := Aside0.mk (below_step (by repeat (first | (with_reducible first | exact HB.out | apply below_alloc | apply pw_below_drewN | apply below_drew1) | exact HB.out)) hb); clear HB; have HB := n0_; clear n0_; (try clear hb); (try clear hb2); (try clear hk); (try clear hi)) | (go_at_call 15; (with_reducible refine (codec_Quoted.calls a1 t243 _ A20.out).mono ?_); rintro e w27 ⟨rfl, hb⟩; have n0_ := Aside0.mk (below_step (by repeat (first | (with_reducible first | exact HB.out | apply below_alloc | apply pw_below_drewN | apply below_drew1) | exact HB.out)) hb); clear HB; have HB := n0_; clear n0_; (try clear hb); (try clear hb2); (try clear hk); (try clear hi)))
                        go_meet
                        case rel => exact ⟨_, ((t241.toList != ((t242 ++ (⟨#[10]⟩ : ByteArray)) ++ t243).toList)), (by first | rfl | (simp; done) | (simp [*]; done)), H', ⟨by have := HJ3.out; first | omega | exact Nat.le_refl _⟩, ⟨by repeat (first | (with_reducible first | exact HB.out | apply below_alloc | apply pw_below_drewN | apply below_drew1) | exact HB.out)⟩⟩
                      · rw [if_neg c21] at H
                        exact absurd H (by simp)
                    · rw [if_neg c19] at H
                      exact absurd H (by simp)
                  · rw [if_neg c16] at H
                    exact absurd H (by simp)
                · rw [if_neg c15] at H
                  exact absurd H (by simp)
              · rw [if_neg c14] at H
                have c14b0 : (t238.toList == (t239 ++ t240).toList) = false := beq_eq_false_iff_ne.mpr c14
                have c14b1 : (t238.toList != (t239 ++ t240).toList) = true := bne_iff_ne.mpr c14
                (first | rw [c14b0] | (simp only [i64_w, i32_w]; rw [c14b0]) | skip)
                have H' := Aside0.mk H
                clear H
                go_wp2_with (first | ((with_reducible refine gate_callee (f := 16) rfl ?_); refine goesL_ (some 20) rfl rfl Try.func16 (by kernel_rfl) rfl #[.string (a0 ++ a1)] rfl (by (try simp only [List.map_toArray, List.map_cons, List.map_nil]); first | done | rfl | (simp only [List.length_drop, List.length_take]; rfl)) ?_; (with_reducible refine (codec_Percent.calls (a0 ++ a1) t238 _ A10.out).mono ?_); rintro e w28 ⟨rfl, hb⟩; refine ⟨_, rfl, ?_⟩; have n0_ := Aside0.mk (below_step (by repeat (first | (with_reducible first | exact HB.out | apply below_alloc | apply pw_below_drewN | apply below_drew1) | exact HB.out)) hb); clear HB; have HB := n0_; clear n0_; (try clear hb); (try clear hb2); (try clear hk); (try clear hi)) | ((with_reducible refine gate_callee (f := 16) rfl ?_); refine goesL_ (some 22) rfl rfl Try.func16 (by kernel_rfl) rfl #[.string a0] rfl (by (try simp only [List.map_toArray, List.map_cons, List.map_nil]); first | done | rfl | (simp only [List.length_drop, List.length_take]; rfl)) ?_; (with_reducible refine (codec_Percent.calls a0 t239 _ A11.out).mono ?_); rintro e w29 ⟨rfl, hb⟩; refine ⟨_, rfl, ?_⟩; have n0_ := Aside0.mk (below_step (by repeat (first | (with_reducible first | exact HB.out | apply below_alloc | apply pw_below_drewN | apply below_drew1) | exact HB.out)) hb); clear HB; have HB := n0_; clear n0_; (try clear hb); (try clear hb2); (try clear hk); (try clear hi)) | ((with_reducible refine gate_callee (f := 16) rfl ?_); refine goesL_ (some 24) rfl rfl Try.func16 (by kernel_rfl) rfl #[.string a1] rfl (by (try simp only [List.map_toArray, List.map_cons, List.map_nil]); first | done | rfl | (simp only [List.length_drop, List.length_take]; rfl)) ?_; (with_reducible refine (codec_Percent.calls a1 t240 _ A12.out).mono ?_); rintro e w30 ⟨rfl, hb⟩; refine ⟨_, rfl, ?_⟩; have n0_ := Aside0.mk (below_step (by repeat (first | (with_reducible first | exact HB.out | apply below_alloc | apply pw_below_drewN | apply below_drew1) | exact HB.out)) hb); clear HB; have HB := n0_; clear n0_; (try clear hb); (try clear hb2); (try clear hk); (try clear hi)))
                go_meet
                case rel => exact ⟨_, (true), (by first | rfl | (simp; done) | (simp [*]; done)), H', ⟨by have := HJ3.out; first | omega | exact Nat.le_refl _⟩, ⟨by repeat (first | (with_reducible first | exact HB.out | apply below_alloc | apply pw_below_drewN | apply below_drew1) | exact HB.out)⟩⟩
            · rw [if_neg c13] at H
              exact absurd H (by simp)
          · rw [if_neg c9] at H
            exact absurd H (by simp)
        case rest =>
          clear HC8
          try clear c1
          try clear c2
          try clear p2
          try clear c6
          try clear c6b0
          try clear c6b1
          try clear c7
          try clear c8
          try clear c9
          try clear c9b0
          try clear c9b1
          try clear c9b2
          try clear c13
          try clear c13b0
          try clear c13b1
          try clear c13b2
          try clear c14
          try clear c14b0
          try clear c14b1
          try clear c15
          try clear c15b0
          try clear c15b1
          try clear c15b2
          try clear c16
          try clear c16b0
          try clear c16b1
          try clear c16b2
          try clear c19
          try clear c19b0
          try clear c19b1
          try clear c19b2
          try clear c21
          try clear c21b0
          try clear c21b1
          try clear c21b2
          try clear p2
          obtain ⟨kq, x40_7, rfl, HA, HJ7, HB⟩ := hcut
          cases kq with
          | zero => exact absurd HA.out (by simp [missivelaw07_CodecParts.j1])
          | succ kj7 =>
            have H := HA.out
            clear HA
            simp only [missivelaw07_CodecParts.j1] at H
            by_cases c31 : x40_7 = true
            · subst c31
              have H1 : (some false) = some r := by rw [if_pos rfl] at H; exact H
              clear H
              have H := H1
              clear H1
              obtain rfl := Option.some.inj H
              go_wp2
              go_ret
              exact ⟨by first | rfl | (simp [errW_none, errW_some] <;> rfl) | (simp [*, errW_none, errW_some] <;> rfl), by repeat (first | (with_reducible first | exact HB.out | apply below_alloc | apply pw_below_drewN | apply below_drew1) | exact HB.out)⟩
            · replace c31 := Bool.eq_false_iff.mpr c31
              subst c31
              have H1 : (if ((a0.size : Int) % 3) = 0 then ((codec_Base64.f a0).bind fun t244 => ((missiveref01_Lines.f kj7 t244).bind fun t245 => ((missiveref01_Join.f kj7 t245 (⟨#[]⟩ : ByteArray)).bind fun t248 => ((codec_Base64.f a1).bind fun t249 => ((missiveref01_Lines.f kj7 t249).bind fun t250 => ((missiveref01_Join.f kj7 t250 (⟨#[]⟩ : ByteArray)).bind fun t253 => (if t248.size + t253.size ≤ 9223372036854775807 then (if t237 = true then (if a0.size + a1.size ≤ 9223372036854775807 then ((codec_Base64.f (a0 ++ a1)).bind fun t254 => ((missiveref01_Lines.f kj7 t254).bind fun t255 => ((missiveref01_Join.f kj7 t255 (⟨#[]⟩ : ByteArray)).bind fun t258 => (some (t258.toList == (t248 ++ t253).toList))))) else (none)) else (some false)) else (none)))))))) else (some t237)) = some r := by rw [if_neg (show ¬ (false = true) by decide)] at H; exact H
              clear H
              have H := H1
              clear H1
              by_cases c32 : ((a0.size : Int) % 3) = 0
              · rw [if_pos c32] at H
                have c32b0 : (((a0.size : Int) % 3) == 0) = true := beq_iff_eq.mpr c32
                have c32b1 : (((a0.size : Int) % 3) != 0) = false := bne_eq_false_iff_eq.mpr c32
                clear c32
                replace H := Option.bind_eq_some_iff.mp H
                obtain ⟨t244, A330, H⟩ := H
                replace H : ((missiveref01_Lines.f kj7 t244).bind fun t245 => ((missiveref01_Join.f kj7 t245 (⟨#[]⟩ : ByteArray)).bind fun t248 => ((codec_Base64.f a1).bind fun t249 => ((missiveref01_Lines.f kj7 t249).bind fun t250 => ((missiveref01_Join.f kj7 t250 (⟨#[]⟩ : ByteArray)).bind fun t253 => (if t248.size + t253.size ≤ 9223372036854775807 then (if t237 = true then (if a0.size + a1.size ≤ 9223372036854775807 then ((codec_Base64.f (a0 ++ a1)).bind fun t254 => ((missiveref01_Lines.f kj7 t254).bind fun t255 => ((missiveref01_Join.f kj7 t255 (⟨#[]⟩ : ByteArray)).bind fun t258 => (some (t258.toList == (t248 ++ t253).toList))))) else (none)) else (some false)) else (none))))))) = some r := H
                have A33 := Aside0.mk A330
                clear A330
                replace H := Option.bind_eq_some_iff.mp H
                obtain ⟨t245, A340, H⟩ := H
                replace H : ((missiveref01_Join.f kj7 t245 (⟨#[]⟩ : ByteArray)).bind fun t248 => ((codec_Base64.f a1).bind fun t249 => ((missiveref01_Lines.f kj7 t249).bind fun t250 => ((missiveref01_Join.f kj7 t250 (⟨#[]⟩ : ByteArray)).bind fun t253 => (if t248.size + t253.size ≤ 9223372036854775807 then (if t237 = true then (if a0.size + a1.size ≤ 9223372036854775807 then ((codec_Base64.f (a0 ++ a1)).bind fun t254 => ((missiveref01_Lines.f kj7 t254).bind fun t255 => ((missiveref01_Join.f kj7 t255 (⟨#[]⟩ : ByteArray)).bind fun t258 => (some (t258.toList == (t248 ++ t253).toList))))) else (none)) else (some false)) else (none)))))) = some r := H
                have A34 := Aside0.mk A340
                clear A340
                replace H := Option.bind_eq_some_iff.mp H
                obtain ⟨t248, A350, H⟩ := H
                replace H : ((codec_Base64.f a1).bind fun t249 => ((missiveref01_Lines.f kj7 t249).bind fun t250 => ((missiveref01_Join.f kj7 t250 (⟨#[]⟩ : ByteArray)).bind fun t253 => (if t248.size + t253.size ≤ 9223372036854775807 then (if t237 = true then (if a0.size + a1.size ≤ 9223372036854775807 then ((codec_Base64.f (a0 ++ a1)).bind fun t254 => ((missiveref01_Lines.f kj7 t254).bind fun t255 => ((missiveref01_Join.f kj7 t255 (⟨#[]⟩ : ByteArray)).bind fun t258 => (some (t258.toList == (t248 ++ t253).toList))))) else (none)) else (some false)) else (none))))) = some r := H
                have A35 := Aside0.mk A350
                clear A350
                replace H := Option.bind_eq_some_iff.mp H
                obtain ⟨t249, A360, H⟩ := H
                replace H : ((missiveref01_Lines.f kj7 t249).bind fun t250 => ((missiveref01_Join.f kj7 t250 (⟨#[]⟩ : ByteArray)).bind fun t253 => (if t248.size + t253.size ≤ 9223372036854775807 then (if t237 = true then (if a0.size + a1.size ≤ 9223372036854775807 then ((codec_Base64.f (a0 ++ a1)).bind fun t254 => ((missiveref01_Lines.f kj7 t254).bind fun t255 => ((missiveref01_Join.f kj7 t255 (⟨#[]⟩ : ByteArray)).bind fun t258 => (some (t258.toList == (t248 ++ t253).toList))))) else (none)) else (some false)) else (none)))) = some r := H
                have A36 := Aside0.mk A360
                clear A360
                replace H := Option.bind_eq_some_iff.mp H
                obtain ⟨t250, A370, H⟩ := H
                replace H : ((missiveref01_Join.f kj7 t250 (⟨#[]⟩ : ByteArray)).bind fun t253 => (if t248.size + t253.size ≤ 9223372036854775807 then (if t237 = true then (if a0.size + a1.size ≤ 9223372036854775807 then ((codec_Base64.f (a0 ++ a1)).bind fun t254 => ((missiveref01_Lines.f kj7 t254).bind fun t255 => ((missiveref01_Join.f kj7 t255 (⟨#[]⟩ : ByteArray)).bind fun t258 => (some (t258.toList == (t248 ++ t253).toList))))) else (none)) else (some false)) else (none))) = some r := H
                have A37 := Aside0.mk A370
                clear A370
                replace H := Option.bind_eq_some_iff.mp H
                obtain ⟨t253, A380, H⟩ := H
                replace H : (if t248.size + t253.size ≤ 9223372036854775807 then (if t237 = true then (if a0.size + a1.size ≤ 9223372036854775807 then ((codec_Base64.f (a0 ++ a1)).bind fun t254 => ((missiveref01_Lines.f kj7 t254).bind fun t255 => ((missiveref01_Join.f kj7 t255 (⟨#[]⟩ : ByteArray)).bind fun t258 => (some (t258.toList == (t248 ++ t253).toList))))) else (none)) else (some false)) else (none)) = some r := H
                have A38 := Aside0.mk A380
                clear A380
                by_cases c39 : t248.size + t253.size ≤ 9223372036854775807
                · rw [if_pos c39] at H
                  have c39b0 := eq_true c39
                  have c39b1 : decide (t248.size + t253.size ≤ 9223372036854775807) = true := decide_eq_true c39
                  try have c39b2 : (9223372036854775807 < t248.size + t253.size) = False := eq_false (Nat.not_lt.2 c39)
                  by_cases c40 : t237 = true
                  · subst c40
                    have H1 : (if a0.size + a1.size ≤ 9223372036854775807 then ((codec_Base64.f (a0 ++ a1)).bind fun t254 => ((missiveref01_Lines.f kj7 t254).bind fun t255 => ((missiveref01_Join.f kj7 t255 (⟨#[]⟩ : ByteArray)).bind fun t258 => (some (t258.toList == (t248 ++ t253).toList))))) else (none)) = some r := by rw [if_pos rfl] at H; exact H
                    clear H
                    have H := H1
                    clear H1
                    by_cases c41 : a0.size + a1.size ≤ 9223372036854775807
                    · rw [if_pos c41] at H
                      have c41b0 := eq_true c41
                      have c41b1 : decide (a0.size + a1.size ≤ 9223372036854775807) = true := decide_eq_true c41
                      try have c41b2 : (9223372036854775807 < a0.size + a1.size) = False := eq_false (Nat.not_lt.2 c41)
                      replace H := Option.bind_eq_some_iff.mp H
                      obtain ⟨t254, A420, H⟩ := H
                      replace H : ((missiveref01_Lines.f kj7 t254).bind fun t255 => ((missiveref01_Join.f kj7 t255 (⟨#[]⟩ : ByteArray)).bind fun t258 => (some (t258.toList == (t248 ++ t253).toList)))) = some r := H
                      have A42 := Aside0.mk A420
                      clear A420
                      replace H := Option.bind_eq_some_iff.mp H
                      obtain ⟨t255, A430, H⟩ := H
                      replace H : ((missiveref01_Join.f kj7 t255 (⟨#[]⟩ : ByteArray)).bind fun t258 => (some (t258.toList == (t248 ++ t253).toList))) = some r := H
                      have A43 := Aside0.mk A430
                      clear A430
                      replace H := Option.bind_eq_some_iff.mp H
                      obtain ⟨t258, A440, H⟩ := H
                      replace H : (some (t258.toList == (t248 ++ t253).toList)) = some r := H
                      have A44 := Aside0.mk A440
                      clear A440
                      obtain rfl := Option.some.inj H
                      go_wp2_with (first | ((with_reducible refine gate_callee (f := 10) rfl ?_); refine goesL_ (some 47) rfl rfl Try.func10 (by kernel_rfl) rfl #[.string a0] rfl (by (try simp only [List.map_toArray, List.map_cons, List.map_nil]); first | done | rfl | (simp only [List.length_drop, List.length_take]; rfl)) ?_; (with_reducible refine (codec_Base64.calls a0 t244 _ A33.out).mono ?_); rintro e w45 ⟨rfl, hb⟩; refine ⟨_, rfl, ?_⟩; have n0_ := Aside0.mk (below_step (by repeat (first | (with_reducible first | exact HB.out | apply below_alloc | apply pw_below_drewN | apply below_drew1) | exact HB.out)) hb); clear HB; have HB := n0_; clear n0_; (try clear hb); (try clear hb2); (try clear hk); (try clear hi)) | ((with_reducible refine gate_callee (f := 19) rfl ?_); refine goesL_ (some 48) rfl rfl Try.func19 (by kernel_rfl) rfl #[.string t244] rfl (by (try simp only [List.map_toArray, List.map_cons, List.map_nil]); first | done | rfl | (simp only [List.length_drop, List.length_take]; rfl)) ?_; (with_reducible refine (missiveref01_Lines.calls kj7 t244 t245 _ A34.out).mono ?_); rintro e w46 ⟨v246, rfl, ho0, hb⟩; refine ⟨_, rfl, ?_⟩; have n0_ := Aside0.mk (Kd.R_lower ho0 (below_size (by repeat (first | (with_reducible first | exact HB.out | apply below_alloc | apply pw_below_drewN | apply below_drew1) | exact HB.out)))); have n1_ := Aside0.mk (below_step (by repeat (first | (with_reducible first | exact HB.out | apply below_alloc | apply pw_below_drewN | apply below_drew1) | exact HB.out)) hb); clear HB; have HO247 := n0_; have HB := n1_; clear n0_ n1_; (try clear hb); (try clear hb2); (try clear hk); (try clear hi); (try clear ho0); obtain ⟨Ao47, co47, eo47⟩ := Kd.R_slice HO247.out; subst eo47) | ((with_reducible refine gate_callee (f := 18) rfl ?_); refine goesL_ (some 49) rfl rfl Try.func18 (by kernel_rfl) rfl #[.slice Ao47 t245.length co47, .string (⟨#[]⟩ : ByteArray)] rfl (by (try simp only [List.map_toArray, List.map_cons, List.map_nil]); first | done | rfl | (simp only [List.length_drop, List.length_take]; rfl)) ?_; (with_reducible refine (missiveref01_Join.calls kj7 _ _ t245 (⟨#[]⟩ : ByteArray) t248 _ ?side1 ?side2 A35.out).mono ?_); (case side1 => repeat (first | exact (Kd.R_reads' HO247.out).2.2 | (with_reducible refine Kd.C_alloc ?_ _) | (with_reducible refine Kd.C_drewN ?_ _) | (with_reducible refine Kd.C_drew ?_))); (case side2 => exact (Kd.R_reads' HO247.out).2.1); rintro e w48 ⟨rfl, hb⟩; refine ⟨_, rfl, ?_⟩; have n0_ := Aside0.mk (Kd.R_below (by (with_reducible repeat (first | apply Kd.R_alloc | apply Kd.R_drewN | apply Kd.R_drew)); exact HO247.out) hb); have n1_ := Aside0.mk (below_step (by repeat (first | (with_reducible first | exact HB.out | apply below_alloc | apply pw_below_drewN | apply below_drew1) | exact HB.out)) hb); clear HO247; clear HB; have HO247 := n0_; have HB := n1_; clear n0_ n1_; (try clear hb); (try clear hb2); (try clear hk); (try clear hi)) | ((with_reducible refine gate_callee (f := 10) rfl ?_); refine goesL_ (some 51) rfl rfl Try.func10 (by kernel_rfl) rfl #[.string a1] rfl (by (try simp only [List.map_toArray, List.map_cons, List.map_nil]); first | done | rfl | (simp only [List.length_drop, List.length_take]; rfl)) ?_; (with_reducible refine (codec_Base64.calls a1 t249 _ A36.out).mono ?_); rintro e w49 ⟨rfl, hb⟩; refine ⟨_, rfl, ?_⟩; have n0_ := Aside0.mk (Kd.R_below (by (with_reducible repeat (first | apply Kd.R_alloc | apply Kd.R_drewN | apply Kd.R_drew)); exact HO247.out) hb); have n1_ := Aside0.mk (below_step (by repeat (first | (with_reducible first | exact HB.out | apply below_alloc | apply pw_below_drewN | apply below_drew1) | exact HB.out)) hb); clear HO247; clear HB; have HO247 := n0_; have HB := n1_; clear n0_ n1_; (try clear hb); (try clear hb2); (try clear hk); (try clear hi)) | ((with_reducible refine gate_callee (f := 19) rfl ?_); refine goesL_ (some 52) rfl rfl Try.func19 (by kernel_rfl) rfl #[.string t249] rfl (by (try simp only [List.map_toArray, List.map_cons, List.map_nil]); first | done | rfl | (simp only [List.length_drop, List.length_take]; rfl)) ?_; (with_reducible refine (missiveref01_Lines.calls kj7 t249 t250 _ A37.out).mono ?_); rintro e w50 ⟨v251, rfl, ho0, hb⟩; refine ⟨_, rfl, ?_⟩; have n0_ := Aside0.mk (Kd.R_elder' (by (with_reducible repeat (first | apply Kd.R_alloc | apply Kd.R_drewN | apply Kd.R_drew)); exact HO247.out) (Kd.R_base ho0) hb); have n1_ := Aside0.mk (Kd.R_lower (Kd.R_new' ho0 (Kd.R_lt (by (with_reducible repeat (first | apply Kd.R_alloc | apply Kd.R_drewN | apply Kd.R_drew)); exact HO247.out))) (below_size (by repeat (first | (with_reducible first | exact HB.out | apply below_alloc | apply pw_below_drewN | apply below_drew1) | exact HB.out)))); have n2_ := Aside0.mk (below_step (by repeat (first | (with_reducible first | exact HB.out | apply below_alloc | apply pw_below_drewN | apply below_drew1) | exact HB.out)) hb); clear HO247; clear HB; have HO247 := n0_; have HO252 := n1_; have HB := n2_; clear n0_ n1_ n2_; (try clear hb); (try clear hb2); (try clear hk); (try clear hi); (try clear ho0); obtain ⟨Ao51, co51, eo51⟩ := Kd.R_slice HO252.out; subst eo51) | ((with_reducible refine gate_callee (f := 18) rfl ?_); refine goesL_ (some 53) rfl rfl Try.func18 (by kernel_rfl) rfl #[.slice Ao51 t250.length co51, .string (⟨#[]⟩ : ByteArray)] rfl (by (try simp only [List.map_toArray, List.map_cons, List.map_nil]); first | done | rfl | (simp only [List.length_drop, List.length_take]; rfl)) ?_; (with_reducible refine (missiveref01_Join.calls kj7 _ _ t250 (⟨#[]⟩ : ByteArray) t253 _ ?side1 ?side2 A38.out).mono ?_); (case side1 => repeat (first | exact (Kd.R_reads' HO252.out).2.2 | (with_reducible refine Kd.C_alloc ?_ _) | (with_reducible refine Kd.C_drewN ?_ _) | (with_reducible refine Kd.C_drew ?_))); (case side2 => exact (Kd.R_reads' HO252.out).2.1); rintro e w52 ⟨rfl, hb⟩; refine ⟨_, rfl, ?_⟩; have n0_ := Aside0.mk (Kd.R_below (by (with_reducible repeat (first | apply Kd.R_alloc | apply Kd.R_drewN | apply Kd.R_drew)); exact HO247.out) hb); have n1_ := Aside0.mk (Kd.R_below (by (with_reducible repeat (first | apply Kd.R_alloc | apply Kd.R_drewN | apply Kd.R_drew)); exact HO252.out) hb); have n2_ := Aside0.mk (below_step (by repeat (first | (with_reducible first | exact HB.out | apply below_alloc | apply pw_below_drewN | apply below_drew1) | exact HB.out)) hb); clear HO247; clear HO252; clear HB; have HO247 := n0_; have HO252 := n1_; have HB := n2_; clear n0_ n1_ n2_; (try clear hb); (try clear hb2); (try clear hk); (try clear hi)) | (go_at_call 10; (with_reducible refine (codec_Base64.calls (a0 ++ a1) t254 _ A42.out).mono ?_); rintro e w53 ⟨rfl, hb⟩; have n0_ := Aside0.mk (Kd.R_below (by (with_reducible repeat (first | apply Kd.R_alloc | apply Kd.R_drewN | apply Kd.R_drew)); exact HO247.out) hb); have n1_ := Aside0.mk (Kd.R_below (by (with_reducible repeat (first | apply Kd.R_alloc | apply Kd.R_drewN | apply Kd.R_drew)); exact HO252.out) hb); have n2_ := Aside0.mk (below_step (by repeat (first | (with_reducible first | exact HB.out | apply below_alloc | apply pw_below_drewN | apply below_drew1) | exact HB.out)) hb); clear HO247; clear HO252; clear HB; have HO247 := n0_; have HO252 := n1_; have HB := n2_; clear n0_ n1_ n2_; (try clear hb); (try clear hb2); (try clear hk); (try clear hi)) | (go_at_call 19; (with_reducible refine (missiveref01_Lines.calls kj7 t254 t255 _ A43.out).mono ?_); rintro e w54 ⟨v256, rfl, ho0, hb⟩; have n0_ := Aside0.mk (Kd.R_elder' (by (with_reducible repeat (first | apply Kd.R_alloc | apply Kd.R_drewN | apply Kd.R_drew)); exact HO247.out) (Kd.R_base ho0) hb); have n1_ := Aside0.mk (Kd.R_elder' (by (with_reducible repeat (first | apply Kd.R_alloc | apply Kd.R_drewN | apply Kd.R_drew)); exact HO252.out) (Kd.R_base ho0) hb); have n2_ := Aside0.mk (Kd.R_lower (Kd.R_new' (Kd.R_new' ho0 (Kd.R_lt (by (with_reducible repeat (first | apply Kd.R_alloc | apply Kd.R_drewN | apply Kd.R_drew)); exact HO247.out))) (Kd.R_lt (by (with_reducible repeat (first | apply Kd.R_alloc | apply Kd.R_drewN | apply Kd.R_drew)); exact HO252.out))) (below_size (by repeat (first | (with_reducible first | exact HB.out | apply below_alloc | apply pw_below_drewN | apply below_drew1) | exact HB.out)))); have n3_ := Aside0.mk (below_step (by repeat (first | (with_reducible first | exact HB.out | apply below_alloc | apply pw_below_drewN | apply below_drew1) | exact HB.out)) hb); clear HO247; clear HO252; clear HB; have HO247 := n0_; have HO252 := n1_; have HO257 := n2_; have HB := n3_; clear n0_ n1_ n2_ n3_; (try clear hb); (try clear hb2); (try clear hk); (try clear hi); (try clear ho0); obtain ⟨Ao55, co55, eo55⟩ := Kd.R_slice HO257.out; subst eo55) | (go_at_call 18; (with_reducible refine (missiveref01_Join.calls kj7 _ _ t255 (⟨#[]⟩ : ByteArray) t258 _ ?side1 ?side2 A44.out).mono ?_); (case side1 => repeat (first | exact (Kd.R_reads' HO257.out).2.2 | (with_reducible refine Kd.C_alloc ?_ _) | (with_reducible refine Kd.C_drewN ?_ _) | (with_reducible refine Kd.C_drew ?_))); (case side2 => exact (Kd.R_reads' HO257.out).2.1); rintro e w56 ⟨rfl, hb⟩; have n0_ := Aside0.mk (Kd.R_below (by (with_reducible repeat (first | apply Kd.R_alloc | apply Kd.R_drewN | apply Kd.R_drew)); exact HO247.out) hb); have n1_ := Aside0.mk (Kd.R_below (by (with_reducible repeat (first | apply Kd.R_alloc | apply Kd.R_drewN | apply Kd.R_drew)); exact HO252.out) hb); have n2_ := Aside0.mk (Kd.R_below (by (with_reducible repeat (first | apply Kd.R_alloc | apply Kd.R_drewN | apply Kd.R_drew)); exact HO257.out) hb); have n3_ := Aside0.mk (below_step (by repeat (first | (with_reducible first | exact HB.out | apply below_alloc | apply pw_below_drewN | apply below_drew1) | exact HB.out)) hb); clear HO247; clear HO252; clear HO257; clear HB; have HO247 := n0_; have HO252 := n1_; have HO257 := n2_; have HB := n3_; clear n0_ n1_ n2_ n3_; (try clear hb); (try clear hb2); (try clear hk); (try clear hi)))
                      go_ret
                      exact ⟨by first | rfl | (simp [errW_none, errW_some] <;> rfl) | (simp [*, errW_none, errW_some] <;> rfl), by repeat (first | (with_reducible first | exact HB.out | apply below_alloc | apply pw_below_drewN | apply below_drew1) | exact HB.out)⟩
                    · rw [if_neg c41] at H
                      exact absurd H (by simp)
                  · replace c40 := Bool.eq_false_iff.mpr c40
                    subst c40
                    have H1 : (some false) = some r := by rw [if_neg (show ¬ (false = true) by decide)] at H; exact H
                    clear H
                    have H := H1
                    clear H1
                    obtain rfl := Option.some.inj H
                    go_wp2_with (first | ((with_reducible refine gate_callee (f := 10) rfl ?_); refine goesL_ (some 47) rfl rfl Try.func10 (by kernel_rfl) rfl #[.string a0] rfl (by (try simp only [List.map_toArray, List.map_cons, List.map_nil]); first | done | rfl | (simp only [List.length_drop, List.length_take]; rfl)) ?_; (with_reducible refine (codec_Base64.calls a0 t244 _ A33.out).mono ?_); rintro e w57 ⟨rfl, hb⟩; refine ⟨_, rfl, ?_⟩; have n0_ := Aside0.mk (below_step (by repeat (first | (with_reducible first | exact HB.out | apply below_alloc | apply pw_below_drewN | apply below_drew1) | exact HB.out)) hb); clear HB; have HB := n0_; clear n0_; (try clear hb); (try clear hb2); (try clear hk); (try clear hi)) | ((with_reducible refine gate_callee (f := 19) rfl ?_); refine goesL_ (some 48) rfl rfl Try.func19 (by kernel_rfl) rfl #[.string t244] rfl (by (try simp only [List.map_toArray, List.map_cons, List.map_nil]); first | done | rfl | (simp only [List.length_drop, List.length_take]; rfl)) ?_; (with_reducible refine (missiveref01_Lines.calls kj7 t244 t245 _ A34.out).mono ?_); rintro e w58 ⟨v246, rfl, ho0, hb⟩; refine ⟨_, rfl, ?_⟩; have n0_ := Aside0.mk (Kd.R_lower ho0 (below_size (by repeat (first | (with_reducible first | exact HB.out | apply below_alloc | apply pw_below_drewN | apply below_drew1) | exact HB.out)))); have n1_ := Aside0.mk (below_step (by repeat (first | (with_reducible first | exact HB.out | apply below_alloc | apply pw_below_drewN | apply below_drew1) | exact HB.out)) hb); clear HB; have HO247 := n0_; have HB := n1_; clear n0_ n1_; (try clear hb); (try clear hb2); (try clear hk); (try clear hi); (try clear ho0); obtain ⟨Ao59, co59, eo59⟩ := Kd.R_slice HO247.out; subst eo59) | ((with_reducible refine gate_callee (f := 18) rfl ?_); refine goesL_ (some 49) rfl rfl Try.func18 (by kernel_rfl) rfl #[.slice Ao59 t245.length co59, .string (⟨#[]⟩ : ByteArray)] rfl (by (try simp only [List.map_toArray, List.map_cons, List.map_nil]); first | done | rfl | (simp only [List.length_drop, List.length_take]; rfl)) ?_; (with_reducible refine (missiveref01_Join.calls kj7 _ _ t245 (⟨#[]⟩ : ByteArray) t248 _ ?side1 ?side2 A35.out).mono ?_); (case side1 => repeat (first | exact (Kd.R_reads' HO247.out).2.2 | (with_reducible refine Kd.C_alloc ?_ _) | (with_reducible refine Kd.C_drewN ?_ _) | (with_reducible refine Kd.C_drew ?_))); (case side2 => exact (Kd.R_reads' HO247.out).2.1); rintro e w60 ⟨rfl, hb⟩; refine ⟨_, rfl, ?_⟩; have n0_ := Aside0.mk (Kd.R_below (by (with_reducible repeat (first | apply Kd.R_alloc | apply Kd.R_drewN | apply Kd.R_drew)); exact HO247.out) hb); have n1_ := Aside0.mk (below_step (by repeat (first | (with_reducible first | exact HB.out | apply below_alloc | apply pw_below_drewN | apply below_drew1) | exact HB.out)) hb); clear HO247; clear HB; have HO247 := n0_; have HB := n1_; clear n0_ n1_; (try clear hb); (try clear hb2); (try clear hk); (try clear hi)) | ((with_reducible refine gate_callee (f := 10) rfl ?_); refine goesL_ (some 51) rfl rfl Try.func10 (by kernel_rfl) rfl #[.string a1] rfl (by (try simp only [List.map_toArray, List.map_cons, List.map_nil]); first | done | rfl | (simp only [List.length_drop, List.length_take]; rfl)) ?_; (with_reducible refine (codec_Base64.calls a1 t249 _ A36.out).mono ?_); rintro e w61 ⟨rfl, hb⟩; refine ⟨_, rfl, ?_⟩; have n0_ := Aside0.mk (Kd.R_below (by (with_reducible repeat (first | apply Kd.R_alloc | apply Kd.R_drewN | apply Kd.R_drew)); exact HO247.out) hb); have n1_ := Aside0.mk (below_step (by repeat (first | (with_reducible first | exact HB.out | apply below_alloc | apply pw_below_drewN | apply below_drew1) | exact HB.out)) hb); clear HO247; clear HB; have HO247 := n0_; have HB := n1_; clear n0_ n1_; (try clear hb); (try clear hb2); (try clear hk); (try clear hi)) | ((with_reducible refine gate_callee (f := 19) rfl ?_); refine goesL_ (some 52) rfl rfl Try.func19 (by kernel_rfl) rfl #[.string t249] rfl (by (try simp only [List.map_toArray, List.map_cons, List.map_nil]); first | done | rfl | (simp only [List.length_drop, List.length_take]; rfl)) ?_; (with_reducible refine (missiveref01_Lines.calls kj7 t249 t250 _ A37.out).mono ?_); rintro e w62 ⟨v251, rfl, ho0, hb⟩; refine ⟨_, rfl, ?_⟩; have n0_ := Aside0.mk (Kd.R_elder' (by (with_reducible repeat (first | apply Kd.R_alloc | apply Kd.R_drewN | apply Kd.R_drew)); exact HO247.out) (Kd.R_base ho0) hb); have n1_ := Aside0.mk (Kd.R_lower (Kd.R_new' ho0 (Kd.R_lt (by (with_reducible repeat (first | apply Kd.R_alloc | apply Kd.R_drewN | apply Kd.R_drew)); exact HO247.out))) (below_size (by repeat (first | (with_reducible first | exact HB.out | apply below_alloc | apply pw_below_drewN | apply below_drew1) | exact HB.out)))); have n2_ := Aside0.mk (below_step (by repeat (first | (with_reducible first | exact HB.out | apply below_alloc | apply pw_below_drewN | apply below_drew1) | exact HB.out)) hb); clear HO247; clear HB; have HO247 := n0_; have HO252 := n1_; have HB := n2_; clear n0_ n1_ n2_; (try clear hb); (try clear hb2); (try clear hk); (try clear hi); (try clear ho0); obtain ⟨Ao63, co63, eo63⟩ := Kd.R_slice HO252.out; subst eo63) | ((with_reducible refine gate_callee (f := 18) rfl ?_); refine goesL_ (some 53) rfl rfl Try.func18 (by kernel_rfl) rfl #[.slice Ao63 t250.length co63, .string (⟨#[]⟩ : ByteArray)] rfl (by (try simp only [List.map_toArray, List.map_cons, List.map_nil]); first | done | rfl | (simp only [List.length_drop, List.length_take]; rfl)) ?_; (with_reducible refine (missiveref01_Join.calls kj7 _ _ t250 (⟨#[]⟩ : ByteArray) t253 _ ?side1 ?side2 A38.out).mono ?_); (case side1 => repeat (first | exact (Kd.R_reads' HO252.out).2.2 | (with_reducible refine Kd.C_alloc ?_ _) | (with_reducible refine Kd.C_drewN ?_ _) | (with_reducible refine Kd.C_drew ?_))); (case side2 => exact (Kd.R_reads' HO252.out).2.1); rintro e w64 ⟨rfl, hb⟩; refine ⟨_, rfl, ?_⟩; have n0_ := Aside0.mk (Kd.R_below (by (with_reducible repeat (first | apply Kd.R_alloc | apply Kd.R_drewN | apply Kd.R_drew)); exact HO247.out) hb); have n1_ := Aside0.mk (Kd.R_below (by (with_reducible repeat (first | apply Kd.R_alloc | apply Kd.R_drewN | apply Kd.R_drew)); exact HO252.out) hb); have n2_ := Aside0.mk (below_step (by repeat (first | (with_reducible first | exact HB.out | apply below_alloc | apply pw_below_drewN | apply below_drew1) | exact HB.out)) hb); clear HO247; clear HO252; clear HB; have HO247 := n0_; have HO252 := n1_; have HB := n2_; clear n0_ n1_ n2_; (try clear hb); (try clear hb2); (try clear hk); (try clear hi)))
                    go_ret
                    exact ⟨by first | rfl | (simp [errW_none, errW_some] <;> rfl) | (simp [*, errW_none, errW_some] <;> rfl), by repeat (first | (with_reducible first | exact HB.out | apply below_alloc | apply pw_below_drewN | apply below_drew1) | exact HB.out)⟩
                · rw [if_neg c39] at H
                  exact absurd H (by simp)
              · rw [if_neg c32] at H
                have c32b0 : (((a0.size : Int) % 3) == 0) = false := beq_eq_false_iff_ne.mpr c32
                have c32b1 : (((a0.size : Int) % 3) != 0) = true := bne_iff_ne.mpr c32
                obtain rfl := Option.some.inj H
                go_wp2
                go_ret
                exact ⟨by first | rfl | (simp [errW_none, errW_some] <;> rfl) | (simp [*, errW_none, errW_some] <;> rfl), by repeat (first | (with_reducible first | exact HB.out | apply below_alloc | apply pw_below_drewN | apply below_drew1) | exact HB.out)⟩

/-- THE ONE PURE STATEMENT of missivelaw07_CodecParts: yours. -/
def missivelaw07_CodecParts.Pure : Prop := ∀ (a0 : ByteArray) (a1 : ByteArray), a0.size ≤ 140737488351232 → a1.size ≤ 140737488351232 → ∃ k, missivelaw07_CodecParts.f k a0 a1 = some true
theorem missivelaw07_CodecParts.walk (P : missivelaw07_CodecParts.Pure) (a0 : ByteArray) (a1 : ByteArray) (w : World) (w0 : a0.size ≤ 140737488351232) (w1 : a1.size ≤ 140737488351232) :
    Calls Try.prog 7 #[.string a0, .string a1] w fun e w' => e = .returned (.bool true) ∧ Below w.heap.size w w' := by
  obtain ⟨k, h⟩ := P a0 a1 w0 w1
  refine (missivelaw07_CodecParts.calls k a0 a1 true w h).mono ?_
  rintro e w' ⟨rfl, hd⟩
  exact ⟨rfl, hd⟩

end Go.Proofs.Ytfephmhphkmegaa.PA
