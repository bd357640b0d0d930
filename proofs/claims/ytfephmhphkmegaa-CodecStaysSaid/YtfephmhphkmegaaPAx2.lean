-- Printed by a program of this session (printx.py) that runs the kit's print.py with texts of this session in the place of some functions; Lean checks it.
import Derived.Test.YtfephmhphkmegaaPAx0
import Derived.Test.YtfephmhphkmegaaPAx1
namespace Go.Proofs.Ytfephmhphkmegaa.PA
open Go.RowKit Go.Proofs.YtfephmhphkmegaaW.PrintWords Go.Proofs.YtfephmhphkmegaaW.PrintLast Go.Proofs.YtfephmhphkmegaaW.PrintMore
attribute [local go_sem] max2_int min2_int max_two min_two max_three min_three max_four min_four   -- for this text's walks alone
set_option linter.unusedVariables false
set_option linter.unusedSimpArgs false

/-! ### missivelaw07_CodecStays: function 4 -/
mutual
def missivelaw07_CodecStays.j0 : Nat → ByteArray → Bool → ByteArray → Bool → ByteArray → Bool → Bool → Option (Bool)
  | 0, _, _, _, _, _, _, _ => none
  | k + 1, x0, x3, x6, x7, x8, x9, x50 => if x50 = true then (some false) else (missivelaw07_CodecStays.l0 k x0 x3 x6 x7 x8 x9 true 0)
def missivelaw07_CodecStays.l0 : Nat → ByteArray → Bool → ByteArray → Bool → ByteArray → Bool → Bool → Int → Option (Bool)
  | 0, _, _, _, _, _, _, _, _ => none
  | k + 1, x0, x3, x6, x7, x8, x9, x10, x11 => if x11 < (x0.size : Int) then (if 0 ≤ x11 then (if (bt x0 x11) = 61 then (some x3) else (if (bt x0 x11) = 43 then (some x3) else (if (bt x0 x11) = 37 then (some x3) else (if (bt x0 x11) = 32 then (if (wrap64 (x11 + 1)) = (x0.size : Int) then (some x3) else (if 0 ≤ (wrap64 (x11 + 1)) then (if (wrap64 (x11 + 1)) < (x0.size : Int) then (if (bt x0 (wrap64 (x11 + 1))) = 10 then (some x3) else (if (bt x0 (wrap64 (x11 + 1))) = 13 then (some x3) else (if x10 = true then (if (bt x0 x11) ≥ 32 then (if (bt x0 x11) < 127 then (missivelaw07_CodecStays.l0 k x0 x3 x6 x7 x8 x9 true (wrap64 (x11 + 1))) else (if (bt x0 x11) = 9 then (missivelaw07_CodecStays.l0 k x0 x3 x6 x7 x8 x9 true (wrap64 (x11 + 1))) else (if (bt x0 x11) = 10 then (missivelaw07_CodecStays.l0 k x0 x3 x6 x7 x8 x9 true (wrap64 (x11 + 1))) else (missivelaw07_CodecStays.l0 k x0 x3 x6 x7 x8 x9 ((bt x0 x11) == 13) (wrap64 (x11 + 1)))))) else (if (bt x0 x11) = 9 then (missivelaw07_CodecStays.l0 k x0 x3 x6 x7 x8 x9 true (wrap64 (x11 + 1))) else (if (bt x0 x11) = 10 then (missivelaw07_CodecStays.l0 k x0 x3 x6 x7 x8 x9 true (wrap64 (x11 + 1))) else (missivelaw07_CodecStays.l0 k x0 x3 x6 x7 x8 x9 ((bt x0 x11) == 13) (wrap64 (x11 + 1)))))) else (missivelaw07_CodecStays.l0 k x0 x3 x6 x7 x8 x9 false (wrap64 (x11 + 1)))))) else (none)) else (none))) else (if (bt x0 x11) = 9 then (if (wrap64 (x11 + 1)) = (x0.size : Int) then (some x3) else (if 0 ≤ (wrap64 (x11 + 1)) then (if (wrap64 (x11 + 1)) < (x0.size : Int) then (if (bt x0 (wrap64 (x11 + 1))) = 10 then (some x3) else (if (bt x0 (wrap64 (x11 + 1))) = 13 then (some x3) else (if x10 = true then (if (bt x0 x11) ≥ 32 then (if (bt x0 x11) < 127 then (missivelaw07_CodecStays.l0 k x0 x3 x6 x7 x8 x9 true (wrap64 (x11 + 1))) else (missivelaw07_CodecStays.l0 k x0 x3 x6 x7 x8 x9 true (wrap64 (x11 + 1)))) else (missivelaw07_CodecStays.l0 k x0 x3 x6 x7 x8 x9 true (wrap64 (x11 + 1)))) else (missivelaw07_CodecStays.l0 k x0 x3 x6 x7 x8 x9 false (wrap64 (x11 + 1)))))) else (none)) else (none))) else (if x10 = true then (if (bt x0 x11) ≥ 32 then (if (bt x0 x11) < 127 then (missivelaw07_CodecStays.l0 k x0 x3 x6 x7 x8 x9 true (wrap64 (x11 + 1))) else (if (bt x0 x11) = 10 then (missivelaw07_CodecStays.l0 k x0 x3 x6 x7 x8 x9 true (wrap64 (x11 + 1))) else (missivelaw07_CodecStays.l0 k x0 x3 x6 x7 x8 x9 ((bt x0 x11) == 13) (wrap64 (x11 + 1))))) else (if (bt x0 x11) = 10 then (missivelaw07_CodecStays.l0 k x0 x3 x6 x7 x8 x9 true (wrap64 (x11 + 1))) else (missivelaw07_CodecStays.l0 k x0 x3 x6 x7 x8 x9 ((bt x0 x11) == 13) (wrap64 (x11 + 1))))) else (missivelaw07_CodecStays.l0 k x0 x3 x6 x7 x8 x9 false (wrap64 (x11 + 1))))))))) else (none)) else (if x3 = true then (if x6.toList = x0.toList then (if (x7 == x10) = true then (if x8.toList = x0.toList then (some x9) else (some false)) else (some false)) else (some false)) else (some false))
end
def missivelaw07_CodecStays.f (k : Nat) (a0 : ByteArray) : Option (Bool) := (missivelaw07_small.f).bind fun t190 => (if (a0.size : Int) > 2000 then (some t190) else ((codec_Unbase64.f a0).bind fun bt191 => ((codec_Unquoted.f a0).bind fun bt193 => ((codec_Unpercent.f a0).bind fun bt195 => (if (bt191.1.size : Int) > (a0.size : Int) then (missivelaw07_CodecStays.j0 k a0 t190 bt193.1 bt193.2 bt195.1 bt195.2 true) else (if (bt193.1.size : Int) > (a0.size : Int) then (missivelaw07_CodecStays.j0 k a0 t190 bt193.1 bt193.2 bt195.1 bt195.2 true) else (missivelaw07_CodecStays.j0 k a0 t190 bt193.1 bt193.2 bt195.1 bt195.2 (decide ((bt195.1.size : Int) > (a0.size : Int))))))))))
theorem missivelaw07_CodecStays.mono_l : ∀ k, (∀ y0 y1 y2 y3 y4 y5 y6, LeO (missivelaw07_CodecStays.j0 k y0 y1 y2 y3 y4 y5 y6) (missivelaw07_CodecStays.j0 (k + 1) y0 y1 y2 y3 y4 y5 y6)) ∧ (∀ y0 y1 y2 y3 y4 y5 y6 y7, LeO (missivelaw07_CodecStays.l0 k y0 y1 y2 y3 y4 y5 y6 y7) (missivelaw07_CodecStays.l0 (k + 1) y0 y1 y2 y3 y4 y5 y6 y7))
  | 0 => ⟨fun _ _ _ _ _ _ _ r h => by simp [missivelaw07_CodecStays.j0] at h, fun _ _ _ _ _ _ _ _ r h => by simp [missivelaw07_CodecStays.l0] at h⟩
  | k + 1 => by
    obtain ⟨ih0, ih1⟩ := missivelaw07_CodecStays.mono_l k
    refine ⟨?_, ?_⟩
    · intro y0 y1 y2 y3 y4 y5 y6
      unfold missivelaw07_CodecStays.j0
      repeat' first
      | (with_reducible exact ih0 _ _ _ _ _ _ _)
      | (with_reducible exact ih1 _ _ _ _ _ _ _ _)
      | (with_reducible exact LeO.refl _)
      | (with_reducible exact LeO.none _)
      | (with_reducible refine LeO.ite ?_ ?_)
      | (with_reducible refine LeO.bind ?_ (fun _ => ?_))
      | exact ih0 _ _ _ _ _ _ _
      | exact ih1 _ _ _ _ _ _ _ _
      | exact LeO.none _
      | refine LeO.ite ?_ ?_
      | refine LeO.bind ?_ (fun _ => ?_)
    · intro y0 y1 y2 y3 y4 y5 y6 y7
      unfold missivelaw07_CodecStays.l0
      repeat' first
      | (with_reducible exact ih0 _ _ _ _ _ _ _)
      | (with_reducible exact ih1 _ _ _ _ _ _ _ _)
      | (with_reducible exact LeO.refl _)
      | (with_reducible exact LeO.none _)
      | (with_reducible refine LeO.ite ?_ ?_)
      | (with_reducible refine LeO.bind ?_ (fun _ => ?_))
      | exact ih0 _ _ _ _ _ _ _
      | exact ih1 _ _ _ _ _ _ _ _
      | exact LeO.none _
      | refine LeO.ite ?_ ?_
      | refine LeO.bind ?_ (fun _ => ?_)
theorem missivelaw07_CodecStays.mono : ∀ a0 k, LeO (missivelaw07_CodecStays.f k a0) (missivelaw07_CodecStays.f (k + 1) a0) := by
  intro a0 k
  obtain ⟨ih0, ih1⟩ := missivelaw07_CodecStays.mono_l k
  unfold missivelaw07_CodecStays.f
  repeat' first
      | (with_reducible exact ih0 _ _ _ _ _ _ _)
      | (with_reducible exact ih1 _ _ _ _ _ _ _ _)
      | (with_reducible exact LeO.refl _)
      | (with_reducible exact LeO.none _)
      | (with_reducible refine LeO.ite ?_ ?_)
      | (with_reducible refine LeO.bind ?_ (fun _ => ?_))
      | exact ih0 _ _ _ _ _ _ _
      | exact ih1 _ _ _ _ _ _ _ _
      | exact LeO.none _
      | refine LeO.ite ?_ ?_
      | refine LeO.bind ?_ (fun _ => ?_)
set_option maxHeartbeats 8000000 in
set_option maxRecDepth 100000 in
theorem missivelaw07_CodecStays.calls (k : Nat) (a0 : ByteArray) (r : Bool) (w : World) (h : missivelaw07_CodecStays.f k a0 = some r) :
    Calls Try.prog 4 #[.string a0] w fun e w' => e = .returned (.bool r) ∧ Below w.heap.size w w' := by
  have HB := Aside0.mk (Below.refl w.heap.size w)
  have H : ((missivelaw07_small.f).bind fun t190 => (if (a0.size : Int) > 2000 then (some t190) else ((codec_Unbase64.f a0).bind fun bt191 => ((codec_Unquoted.f a0).bind fun bt193 => ((codec_Unpercent.f a0).bind fun bt195 => (if (bt191.1.size : Int) > (a0.size : Int) then (missivelaw07_CodecStays.j0 k a0 t190 bt193.1 bt193.2 bt195.1 bt195.2 true) else (if (bt193.1.size : Int) > (a0.size : Int) then (missivelaw07_CodecStays.j0 k a0 t190 bt193.1 bt193.2 bt195.1 bt195.2 true) else (missivelaw07_CodecStays.j0 k a0 t190 bt193.1 bt193.2 bt195.1 bt195.2 (decide ((bt195.1.size : Int) > (a0.size : Int))))))))))) = some r := h
  clear h
  replace H := Option.bind_eq_some_iff.mp H
  obtain ⟨t190, A20, H⟩ := H
  replace H : (if (a0.size : Int) > 2000 then (some t190) else ((codec_Unbase64.f a0).bind fun bt191 => ((codec_Unquoted.f a0).bind fun bt193 => ((codec_Unpercent.f a0).bind fun bt195 => (if (bt191.1.size : Int) > (a0.size : Int) then (missivelaw07_CodecStays.j0 k a0 t190 bt193.1 bt193.2 bt195.1 bt195.2 true) else (if (bt193.1.size : Int) > (a0.size : Int) then (missivelaw07_CodecStays.j0 k a0 t190 bt193.1 bt193.2 bt195.1 bt195.2 true) else (missivelaw07_CodecStays.j0 k a0 t190 bt193.1 bt193.2 bt195.1 bt195.2 (decide ((bt195.1.size : Int) > (a0.size : Int)))))))))) = some r := H
  have A2 := Aside0.mk A20
  clear A20
  by_cases c3 : (a0.size : Int) > 2000
  · rw [if_pos c3] at H
    have c3b0 : decide (2000 < (a0.size : Int)) = true := decide_eq_true c3
    have c3b1 : decide (2000 < a0.size) = true := decide_eq_true (by omega)
    clear c3
    obtain rfl := Option.some.inj H
    go_enter Try.func4, Try.ntmps4
    go_wp2_with (first | ((with_reducible refine gate_callee (f := 8) rfl ?_); refine goesL_ (some 12) rfl rfl Try.func8 (by kernel_rfl) rfl #[] rfl (by (try simp only [List.map_toArray, List.map_cons, List.map_nil]); first | done | rfl | (simp only [List.length_drop, List.length_take]; rfl)) ?_; (with_reducible refine (missivelaw07_small.calls  t190 _ A2.out).mono ?_); rintro e w4 ⟨rfl, hb⟩; refine ⟨_, rfl, ?_⟩; have n0_ := Aside0.mk (below_step (by repeat (first | (with_reducible first | exact HB.out | apply below_alloc | apply pw_below_drewN | apply below_drew1) | exact HB.out)) hb); clear HB; have HB := n0_; clear n0_; (try clear hb); (try clear hb2); (try clear hk); (try clear hi)))
    go_ret
    exact ⟨by first | rfl | (simp [errW_none, errW_some] <;> rfl) | (simp [*, errW_none, errW_some] <;> rfl), by repeat (first | (with_reducible first | exact HB.out | apply below_alloc | apply pw_below_drewN | apply below_drew1) | exact HB.out)⟩
  · rw [if_neg c3] at H
    have c3b0 : decide (2000 < (a0.size : Int)) = false := decide_eq_false c3
    have c3b1 : decide (2000 < a0.size) = false := decide_eq_false (by omega)
    clear c3
    replace H := Option.bind_eq_some_iff.mp H
    obtain ⟨⟨t191, t192⟩, A50, H⟩ := H
    replace H : ((codec_Unquoted.f a0).bind fun bt193 => ((codec_Unpercent.f a0).bind fun bt195 => (if (t191.size : Int) > (a0.size : Int) then (missivelaw07_CodecStays.j0 k a0 t190 bt193.1 bt193.2 bt195.1 bt195.2 true) else (if (bt193.1.size : Int) > (a0.size : Int) then (missivelaw07_CodecStays.j0 k a0 t190 bt193.1 bt193.2 bt195.1 bt195.2 true) else (missivelaw07_CodecStays.j0 k a0 t190 bt193.1 bt193.2 bt195.1 bt195.2 (decide ((bt195.1.size : Int) > (a0.size : Int)))))))) = some r := H
    have A5 := Aside0.mk A50
    clear A50
    replace H := Option.bind_eq_some_iff.mp H
    obtain ⟨⟨t193, t194⟩, A60, H⟩ := H
    replace H : ((codec_Unpercent.f a0).bind fun bt195 => (if (t191.size : Int) > (a0.size : Int) then (missivelaw07_CodecStays.j0 k a0 t190 t193 t194 bt195.1 bt195.2 true) else (if (t193.size : Int) > (a0.size : Int) then (missivelaw07_CodecStays.j0 k a0 t190 t193 t194 bt195.1 bt195.2 true) else (missivelaw07_CodecStays.j0 k a0 t190 t193 t194 bt195.1 bt195.2 (decide ((bt195.1.size : Int) > (a0.size : Int))))))) = some r := H
    have A6 := Aside0.mk A60
    clear A60
    replace H := Option.bind_eq_some_iff.mp H
    obtain ⟨⟨t195, t196⟩, A70, H⟩ := H
    replace H : (if (t191.size : Int) > (a0.size : Int) then (missivelaw07_CodecStays.j0 k a0 t190 t193 t194 t195 t196 true) else (if (t193.size : Int) > (a0.size : Int) then (missivelaw07_CodecStays.j0 k a0 t190 t193 t194 t195 t196 true) else (missivelaw07_CodecStays.j0 k a0 t190 t193 t194 t195 t196 (decide ((t195.size : Int) > (a0.size : Int)))))) = some r := H
    have A7 := Aside0.mk A70
    clear A70
    have HC8 := Aside0.mk H
    clear H
    go_enter Try.func4, Try.ntmps4
    go_upto_region 7 with (first | ((with_reducible refine gate_callee (f := 8) rfl ?_); refine goesL_ (some 12) rfl rfl Try.func8 (by kernel_rfl) rfl #[] rfl (by (try simp only [List.map_toArray, List.map_cons, List.map_nil]); first | done | rfl | (simp only [List.length_drop, List.length_take]; rfl)) ?_; (with_reducible refine (missivelaw07_small.calls  t190 _ A2.out).mono ?_); rintro e w9 ⟨rfl, hb⟩; refine ⟨_, rfl, ?_⟩; have n0_ := Aside0.mk (below_step (by repeat (first | (with_reducible first | exact HB.out | apply below_alloc | apply pw_below_drewN | apply below_drew1) | exact HB.out)) hb); clear HB; have HB := n0_; clear n0_; (try clear hb); (try clear hb2); (try clear hk); (try clear hi)) | ((with_reducible refine gate_callee (f := 11) rfl ?_); refine goesL_ (some 19) rfl rfl Try.func11 (by kernel_rfl) rfl #[.string a0] rfl (by (try simp only [List.map_toArray, List.map_cons, List.map_nil]); first | done | rfl | (simp only [List.length_drop, List.length_take]; rfl)) ?_; (with_reducible refine (codec_Unbase64.calls a0 t191 t192 _ A5.out).mono ?_); rintro e w10 ⟨rfl, hb⟩; refine ⟨_, rfl, ?_⟩; have n0_ := Aside0.mk (below_step (by repeat (first | (with_reducible first | exact HB.out | apply below_alloc | apply pw_below_drewN | apply below_drew1) | exact HB.out)) hb); clear HB; have HB := n0_; clear n0_; (try clear hb); (try clear hb2); (try clear hk); (try clear hi)) | ((with_reducible refine gate_callee (f := 13) rfl ?_); refine goesL_ (some 24) rfl rfl Try.func13 (by kernel_rfl) rfl #[.string a0] rfl (by (try simp only [List.map_toArray, List.map_cons, List.map_nil]); first | done | rfl | (simp only [List.length_drop, List.length_take]; rfl)) ?_; (with_reducible refine (codec_Unquoted.calls a0 t193 t194 _ A6.out).mono ?_); rintro e w11 ⟨rfl, hb⟩; refine ⟨_, rfl, ?_⟩; have n0_ := Aside0.mk (below_step (by repeat (first | (with_reducible first | exact HB.out | apply below_alloc | apply pw_below_drewN | apply below_drew1) | exact HB.out)) hb); clear HB; have HB := n0_; clear n0_; (try clear hb); (try clear hb2); (try clear hk); (try clear hi)) | ((with_reducible refine gate_callee (f := 14) rfl ?_); refine goesL_ (some 29) rfl rfl Try.func14 (by kernel_rfl) rfl #[.string a0] rfl (by (try simp only [List.map_toArray, List.map_cons, List.map_nil]); first | done | rfl | (simp only [List.length_drop, List.length_take]; rfl)) ?_; (with_reducible refine (codec_Unpercent.calls a0 t195 t196 _ A7.out).mono ?_); rintro e w12 ⟨rfl, hb⟩; refine ⟨_, rfl, ?_⟩; have n0_ := Aside0.mk (below_step (by repeat (first | (with_reducible first | exact HB.out | apply below_alloc | apply pw_below_drewN | apply below_drew1) | exact HB.out)) hb); clear HB; have HB := n0_; clear n0_; (try clear hb); (try clear hb2); (try clear hk); (try clear hi)))
    (try simp only [Act.put, List.setIfInBounds_toArray, List.set_cons_zero, List.set_cons_succ])
    go_cut [50] (fun v50 wc => ∃ (kq : Nat) (x50_7 : Bool), v50 = .bool x50_7 ∧ Aside0 (missivelaw07_CodecStays.j0 kq a0 t190 t193 t194 t195 t196 x50_7 = some r) ∧ Aside0 (kq ≤ k) ∧ Aside0 (Below w.heap.size w wc))
    case first =>
      have H := HC8.out
      clear HC8
      by_cases c13 : (t191.size : Int) > (a0.size : Int)
      · rw [if_pos c13] at H
        have c13b0 : decide ((a0.size : Int) < (t191.size : Int)) = true := decide_eq_true c13
        have c13b1 : decide (a0.size < t191.size) = true := decide_eq_true (Int.ofNat_lt.mp c13)
        clear c13
        (first | rw [c13b0] | (simp only [i64_w, i32_w]; rw [c13b0]) | skip)
        have H' := Aside0.mk H
        clear H
        go_wp2
        go_meet
        case rel => exact ⟨_, (true), (by first | rfl | (simp; done) | (simp [*]; done)), H', ⟨by first | omega | exact Nat.le_refl _⟩, ⟨by repeat (first | (with_reducible first | exact HB.out | apply below_alloc | apply pw_below_drewN | apply below_drew1) | exact HB.out)⟩⟩
      · rw [if_neg c13] at H
        have c13b0 : decide ((a0.size : Int) < (t191.size : Int)) = false := decide_eq_false c13
        have c13b1 : decide (a0.size < t191.size) = false := decide_eq_false (fun h => c13 (Int.ofNat_lt.mpr h))
        clear c13
        (first | rw [c13b0] | (simp only [i64_w, i32_w]; rw [c13b0]) | skip)
        by_cases c14 : (t193.size : Int) > (a0.size : Int)
        · rw [if_pos c14] at H
          have c14b0 : decide ((a0.size : Int) < (t193.size : Int)) = true := decide_eq_true c14
          have c14b1 : decide (a0.size < t193.size) = true := decide_eq_true (Int.ofNat_lt.mp c14)
          clear c14
          have H' := Aside0.mk H
          clear H
          go_wp2
          go_meet
          case rel => exact ⟨_, (true), (by first | rfl | (simp; done) | (simp [*]; done)), H', ⟨by first | omega | exact Nat.le_refl _⟩, ⟨by repeat (first | (with_reducible first | exact HB.out | apply below_alloc | apply pw_below_drewN | apply below_drew1) | exact HB.out)⟩⟩
        · rw [if_neg c14] at H
          have c14b0 : decide ((a0.size : Int) < (t193.size : Int)) = false := decide_eq_false c14
          have c14b1 : decide (a0.size < t193.size) = false := decide_eq_false (fun h => c14 (Int.ofNat_lt.mpr h))
          clear c14
          have H' := Aside0.mk H
          clear H
          go_wp2
          go_meet
          case rel => exact ⟨_, (decide ((t195.size : Int) > (a0.size : Int))), (by first | rfl | (simp; done) | (simp [*]; done)), H', ⟨by first | omega | exact Nat.le_refl _⟩, ⟨by repeat (first | (with_reducible first | exact HB.out | apply below_alloc | apply pw_below_drewN | apply below_drew1) | exact HB.out)⟩⟩
    case rest =>
      clear HC8
      try clear c1
      try clear p2
      try clear c3
      try clear c3b0
      try clear c3b1
      try clear c4
      try clear c8
      try clear c11
      try clear c13
      try clear c13b0
      try clear c13b1
      try clear c14
      try clear c14b0
      try clear c14b1
      obtain ⟨kq, x50_7, rfl, HA, HJ7, HB⟩ := hcut
      cases kq with
      | zero => exact absurd HA.out (by simp [missivelaw07_CodecStays.j0])
      | succ kj7 =>
        have H := HA.out
        clear HA
        simp only [missivelaw07_CodecStays.j0] at H
        by_cases c15 : x50_7 = true
        · subst c15
          have H1 : (some false) = some r := by rw [if_pos rfl] at H; exact H
          clear H
          have H := H1
          clear H1
          obtain rfl := Option.some.inj H
          go_wp2
          go_ret
          exact ⟨by first | rfl | (simp [errW_none, errW_some] <;> rfl) | (simp [*, errW_none, errW_some] <;> rfl), by repeat (first | (with_reducible first | exact HB.out | apply below_alloc | apply pw_below_drewN | apply below_drew1) | exact HB.out)⟩
        · replace c15 := Bool.eq_false_iff.mpr c15
          subst c15
          have H1 : (missivelaw07_CodecStays.l0 kj7 a0 t190 t193 t194 t195 t196 true 0) = some r := by rw [if_neg (show ¬ (false = true) by decide)] at H; exact H
          clear H
          have H := H1
          clear H1
          have H' := Aside0.mk H
          clear H
          go_wp2
          go_loopg [10, 11] kj7 (fun kq v10 v11 w' => ∃ (x10_2 : Bool) (x11_2 : Int), v10 = .bool x10_2 ∧ v11 = .int .i64 x11_2 ∧ Aside0 (missivelaw07_CodecStays.l0 kq a0 t190 t193 t194 t195 t196 x10_2 x11_2 = some r) ∧ Aside0 (kq ≤ kj7) ∧ Aside0 (Below w.heap.size w w'))
          case atStart => exact ⟨(true), (0), (by first | rfl | (simp; done) | (simp [*]; done)), (by first | rfl | (simp; done) | (simp [*]; done)), H', ⟨Nat.le_refl _⟩, ⟨by repeat (first | (with_reducible first | exact HB.out | apply below_alloc | apply pw_below_drewN | apply below_drew1) | exact HB.out)⟩⟩
          case round =>
            clear H'
            try clear c1
            try clear p2
            try clear c3
            try clear c3b0
            try clear c3b1
            try clear c4
            try clear c8
            try clear c11
            try clear c13
            try clear c13b0
            try clear c13b1
            try clear c14
            try clear c14b0
            try clear c14b1
            try clear c15
            try clear p2
            obtain ⟨x10_2, x11_2, rfl, rfl, HA, HK2, HB⟩ := hrel
            cases gk with
            | zero => exact absurd HA.out (by simp [missivelaw07_CodecStays.l0])
            | succ k2 =>
              have H := HA.out
              clear HA
              simp only [missivelaw07_CodecStays.l0] at H
              by_cases c16 : x11_2 < (a0.size : Int)
              · rw [if_pos c16] at H
                have c16b0 : decide (x11_2 < (a0.size : Int)) = true := decide_eq_true c16
                clear c16
                by_cases c17 : 0 ≤ x11_2
                · rw [if_pos c17] at H
                  have c17b0 : decide (0 ≤ x11_2) = true := decide_eq_true c17
                  clear c17
                  by_cases c19 : (bt a0 x11_2) = 61
                  · rw [if_pos c19] at H
                    have c19b0 : ((bt a0 x11_2) == 61) = true := beq_iff_eq.mpr c19
                    have c19b1 : ((bt a0 x11_2) != 61) = false := bne_eq_false_iff_eq.mpr c19
                    clear c19
                    obtain rfl := Option.some.inj H
                    have p18 : 0 ≤ (x11_2 : Int) := of_decide_eq_true (by first | (with_reducible assumption) | assumption)
                    have q18 : x11_2 < (a0.size : Int) := of_decide_eq_true (by first | (with_reducible assumption) | assumption)
                    have hx18 := bt_at a0 x11_2
                    replace p18 := eq_true p18
                    replace q18 := eq_true q18
                    go_wp2
                    go_ret
                    exact ⟨by first | rfl | (simp [errW_none, errW_some] <;> rfl) | (simp [*, errW_none, errW_some] <;> rfl), by repeat (first | (with_reducible first | exact HB.out | apply below_alloc | apply pw_below_drewN | apply below_drew1) | exact HB.out)⟩
                  · rw [if_neg c19] at H
                    have c19b0 : ((bt a0 x11_2) == 61) = false := beq_eq_false_iff_ne.mpr c19
                    have c19b1 : ((bt a0 x11_2) != 61) = true := bne_iff_ne.mpr c19
                    by_cases c21 : (bt a0 x11_2) = 43
                    · rw [if_pos c21] at H
                      have c21b0 : ((bt a0 x11_2) == 43) = true := beq_iff_eq.mpr c21
                      have c21b1 : ((bt a0 x11_2) != 43) = false := bne_eq_false_iff_eq.mpr c21
                      clear c21
                      obtain rfl := Option.some.inj H
                      have p18 : 0 ≤ (x11_2 : Int) := of_decide_eq_true (by first | (with_reducible assumption) | assumption)
                      have q18 : x11_2 < (a0.size : Int) := of_decide_eq_true (by first | (with_reducible assumption) | assumption)
                      have hx18 := bt_at a0 x11_2
                      replace p18 := eq_true p18
                      replace q18 := eq_true q18
                      have p20 : 0 ≤ (x11_2 : Int) := of_decide_eq_true (by first | (with_reducible assumption) | assumption)
                      have q20 : x11_2 < (a0.size : Int) := of_decide_eq_true (by first | (with_reducible assumption) | assumption)
                      have hx20 := bt_at a0 x11_2
                      replace p20 := eq_true p20
                      replace q20 := eq_true q20
                      go_wp2
                      go_ret
                      exact ⟨by first | rfl | (simp [errW_none, errW_some] <;> rfl) | (simp [*, errW_none, errW_some] <;> rfl), by repeat (first | (with_reducible first | exact HB.out | apply below_alloc | apply pw_below_drewN | apply below_drew1) | exact HB.out)⟩
                    · rw [if_neg c21] at H
                      have c21b0 : ((bt a0 x11_2) == 43) = false := beq_eq_false_iff_ne.mpr c21
                      have c21b1 : ((bt a0 x11_2) != 43) = true := bne_iff_ne.mpr c21
                      by_cases c23 : (bt a0 x11_2) = 37
                      · rw [if_pos c23] at H
                        have c23b0 : ((bt a0 x11_2) == 37) = true := beq_iff_eq.mpr c23
                        have c23b1 : ((bt a0 x11_2) != 37) = false := bne_eq_false_iff_eq.mpr c23
                        clear c23
                        obtain rfl := Option.some.inj H
                        have p18 : 0 ≤ (x11_2 : Int) := of_decide_eq_true (by first | (with_reducible assumption) | assumption)
                        have q18 : x11_2 < (a0.size : Int) := of_decide_eq_true (by first | (with_reducible assumption) | assumption)
                        have hx18 := bt_at a0 x11_2
                        replace p18 := eq_true p18
                        replace q18 := eq_true q18
                        have p20 : 0 ≤ (x11_2 : Int) := of_decide_eq_true (by first | (with_reducible assumption) | assumption)
                        have q20 : x11_2 < (a0.size : Int) := of_decide_eq_true (by first | (with_reducible assumption) | assumption)
                        have hx20 := bt_at a0 x11_2
                        replace p20 := eq_true p20
                        replace q20 := eq_true q20
                        have p22 : 0 ≤ (x11_2 : Int) := of_decide_eq_true (by first | (with_reducible assumption) | assumption)
                        have q22 : x11_2 < (a0.size : Int) := of_decide_eq_true (by first | (with_reducible assumption) | assumption)
                        have hx22 := bt_at a0 x11_2
                        replace p22 := eq_true p22
                        replace q22 := eq_true q22
                        go_wp2
                        go_ret
                        exact ⟨by first | rfl | (simp [errW_none, errW_some] <;> rfl) | (simp [*, errW_none, errW_some] <;> rfl), by repeat (first | (with_reducible first | exact HB.out | apply below_alloc | apply pw_below_drewN | apply below_drew1) | exact HB.out)⟩
                      · rw [if_neg c23] at H
                        have c23b0 : ((bt a0 x11_2) == 37) = false := beq_eq_false_iff_ne.mpr c23
                        have c23b1 : ((bt a0 x11_2) != 37) = true := bne_iff_ne.mpr c23
                        by_cases c25 : (bt a0 x11_2) = 32
                        · rw [if_pos c25] at H
                          have c25b0 : ((bt a0 x11_2) == 32) = true := beq_iff_eq.mpr c25
                          have c25b1 : ((bt a0 x11_2) != 32) = false := bne_eq_false_iff_eq.mpr c25
                          clear c25
                          by_cases c26 : (wrap64 (x11_2 + 1)) = (a0.size : Int)
                          · rw [if_pos c26] at H
                            have c26b0 : ((wrap64 (x11_2 + 1)) == (a0.size : Int)) = true := beq_iff_eq.mpr c26
                            have c26b1 : ((wrap64 (x11_2 + 1)) != (a0.size : Int)) = false := bne_eq_false_iff_eq.mpr c26
                            clear c26
                            obtain rfl := Option.some.inj H
                            have p18 : 0 ≤ (x11_2 : Int) := of_decide_eq_true (by first | (with_reducible assumption) | assumption)
                            have q18 : x11_2 < (a0.size : Int) := of_decide_eq_true (by first | (with_reducible assumption) | assumption)
                            have hx18 := bt_at a0 x11_2
                            replace p18 := eq_true p18
                            replace q18 := eq_true q18
                            have p20 : 0 ≤ (x11_2 : Int) := of_decide_eq_true (by first | (with_reducible assumption) | assumption)
                            have q20 : x11_2 < (a0.size : Int) := of_decide_eq_true (by first | (with_reducible assumption) | assumption)
                            have hx20 := bt_at a0 x11_2
                            replace p20 := eq_true p20
                            replace q20 := eq_true q20
                            have p22 : 0 ≤ (x11_2 : Int) := of_decide_eq_true (by first | (with_reducible assumption) | assumption)
                            have q22 : x11_2 < (a0.size : Int) := of_decide_eq_true (by first | (with_reducible assumption) | assumption)
                            have hx22 := bt_at a0 x11_2
                            replace p22 := eq_true p22
                            replace q22 := eq_true q22
                            have p24 : 0 ≤ (x11_2 : Int) := of_decide_eq_true (by first | (with_reducible assumption) | assumption)
                            have q24 : x11_2 < (a0.size : Int) := of_decide_eq_true (by first | (with_reducible assumption) | assumption)
                            have hx24 := bt_at a0 x11_2
                            replace p24 := eq_true p24
                            replace q24 := eq_true q24
                            go_wp2
                            go_ret
                            exact ⟨by first | rfl | (simp [errW_none, errW_some] <;> rfl) | (simp [*, errW_none, errW_some] <;> rfl), by repeat (first | (with_reducible first | exact HB.out | apply below_alloc | apply pw_below_drewN | apply below_drew1) | exact HB.out)⟩
                          · rw [if_neg c26] at H
                            have c26b0 : ((wrap64 (x11_2 + 1)) == (a0.size : Int)) = false := beq_eq_false_iff_ne.mpr c26
                            have c26b1 : ((wrap64 (x11_2 + 1)) != (a0.size : Int)) = true := bne_iff_ne.mpr c26
                            obtain ⟨ji27, hji27⟩ : ∃ j_ : Int, (wrap64 (x11_2 + 1)) = j_ := ⟨_, rfl⟩
                            replace H : (if 0 ≤ (ji27) then (if (ji27) < (a0.size : Int) then (if (bt a0 (ji27)) = 10 then (some t190) else (if (bt a0 (ji27)) = 13 then (some t190) else (if x10_2 = true then (if (bt a0 x11_2) ≥ 32 then (if (bt a0 x11_2) < 127 then (missivelaw07_CodecStays.l0 k2 a0 t190 t193 t194 t195 t196 true ji27) else (if (bt a0 x11_2) = 9 then (missivelaw07_CodecStays.l0 k2 a0 t190 t193 t194 t195 t196 true ji27) else (if (bt a0 x11_2) = 10 then (missivelaw07_CodecStays.l0 k2 a0 t190 t193 t194 t195 t196 true ji27) else (missivelaw07_CodecStays.l0 k2 a0 t190 t193 t194 t195 t196 ((bt a0 x11_2) == 13) ji27)))) else (if (bt a0 x11_2) = 9 then (missivelaw07_CodecStays.l0 k2 a0 t190 t193 t194 t195 t196 true ji27) else (if (bt a0 x11_2) = 10 then (missivelaw07_CodecStays.l0 k2 a0 t190 t193 t194 t195 t196 true ji27) else (missivelaw07_CodecStays.l0 k2 a0 t190 t193 t194 t195 t196 ((bt a0 x11_2) == 13) ji27)))) else (missivelaw07_CodecStays.l0 k2 a0 t190 t193 t194 t195 t196 false ji27)))) else (none)) else (none)) = some r := by first | (rw [hji27] at H; exact H) | (simp only [hji27] at H ⊢; exact H)
                            (try rw [hji27] at c26b0)
                            (try rw [hji27] at c26b1)
                            have hji27w : (IntKind.i64.wrap (x11_2 + 1)) = ji27 := (i64_w _).trans hji27
                            by_cases c28 : 0 ≤ (ji27)
                            · rw [if_pos c28] at H
                              have c28b0 : decide (0 ≤ (ji27)) = true := decide_eq_true c28
                              clear c28
                              by_cases c29 : (ji27) < (a0.size : Int)
                              · rw [if_pos c29] at H
                                have c29b0 : decide ((ji27) < (a0.size : Int)) = true := decide_eq_true c29
                                clear c29
                                by_cases c31 : (bt a0 (ji27)) = 10
                                · rw [if_pos c31] at H
                                  have c31b0 : ((bt a0 (ji27)) == 10) = true := beq_iff_eq.mpr c31
                                  have c31b1 : ((bt a0 (ji27)) != 10) = false := bne_eq_false_iff_eq.mpr c31
                                  clear c31
                                  obtain rfl := Option.some.inj H
                                  have p18 : 0 ≤ (x11_2 : Int) := of_decide_eq_true (by first | (with_reducible assumption) | assumption)
                                  have q18 : x11_2 < (a0.size : Int) := of_decide_eq_true (by first | (with_reducible assumption) | assumption)
                                  have hx18 := bt_at a0 x11_2
                                  replace p18 := eq_true p18
                                  replace q18 := eq_true q18
                                  have p20 : 0 ≤ (x11_2 : Int) := of_decide_eq_true (by first | (with_reducible assumption) | assumption)
                                  have q20 : x11_2 < (a0.size : Int) := of_decide_eq_true (by first | (with_reducible assumption) | assumption)
                                  have hx20 := bt_at a0 x11_2
                                  replace p20 := eq_true p20
                                  replace q20 := eq_true q20
                                  have p22 : 0 ≤ (x11_2 : Int) := of_decide_eq_true (by first | (with_reducible assumption) | assumption)
                                  have q22 : x11_2 < (a0.size : Int) := of_decide_eq_true (by first | (with_reducible assumption) | assumption)
                                  have hx22 := bt_at a0 x11_2
                                  replace p22 := eq_true p22
                                  replace q22 := eq_true q22
                                  have p24 : 0 ≤ (x11_2 : Int) := of_decide_eq_true (by first | (with_reducible assumption) | assumption)
                                  have q24 : x11_2 < (a0.size : Int) := of_decide_eq_true (by first | (with_reducible assumption) | assumption)
                                  have hx24 := bt_at a0 x11_2
                                  replace p24 := eq_true p24
                                  replace q24 := eq_true q24
                                  have p30 : 0 ≤ ((ji27) : Int) := of_decide_eq_true (by first | (with_reducible assumption) | assumption)
                                  have q30 : (ji27) < (a0.size : Int) := of_decide_eq_true (by first | (with_reducible assumption) | assumption)
                                  have hx30 := bt_at a0 (ji27)
                                  replace p30 := eq_true p30
                                  replace q30 := eq_true q30
                                  go_wp2
                                  go_ret
                                  exact ⟨by first | rfl | (simp [errW_none, errW_some] <;> rfl) | (simp only [← hji27]; first | rfl | (simp [errW_none, errW_some] <;> rfl)) | (simp [*, errW_none, errW_some] <;> rfl), by repeat (first | (with_reducible first | exact HB.out | apply below_alloc | apply pw_below_drewN | apply below_drew1) | exact HB.out)⟩
                                · rw [if_neg c31] at H
                                  have c31b0 : ((bt a0 (ji27)) == 10) = false := beq_eq_false_iff_ne.mpr c31
                                  have c31b1 : ((bt a0 (ji27)) != 10) = true := bne_iff_ne.mpr c31
                                  by_cases c33 : (bt a0 (ji27)) = 13
                                  · rw [if_pos c33] at H
                                    have c33b0 : ((bt a0 (ji27)) == 13) = true := beq_iff_eq.mpr c33
                                    have c33b1 : ((bt a0 (ji27)) != 13) = false := bne_eq_false_iff_eq.mpr c33
                                    clear c33
                                    obtain rfl := Option.some.inj H
                                    have p18 : 0 ≤ (x11_2 : Int) := of_decide_eq_true (by first | (with_reducible assumption) | assumption)
                                    have q18 : x11_2 < (a0.size : Int) := of_decide_eq_true (by first | (with_reducible assumption) | assumption)
                                    have hx18 := bt_at a0 x11_2
                                    replace p18 := eq_true p18
                                    replace q18 := eq_true q18
                                    have p20 : 0 ≤ (x11_2 : Int) := of_decide_eq_true (by first | (with_reducible assumption) | assumption)
                                    have q20 : x11_2 < (a0.size : Int) := of_decide_eq_true (by first | (with_reducible assumption) | assumption)
                                    have hx20 := bt_at a0 x11_2
                                    replace p20 := eq_true p20
                                    replace q20 := eq_true q20
                                    have p22 : 0 ≤ (x11_2 : Int) := of_decide_eq_true (by first | (with_reducible assumption) | assumption)
                                    have q22 : x11_2 < (a0.size : Int) := of_decide_eq_true (by first | (with_reducible assumption) | assumption)
                                    have hx22 := bt_at a0 x11_2
                                    replace p22 := eq_true p22
                                    replace q22 := eq_true q22
                                    have p24 : 0 ≤ (x11_2 : Int) := of_decide_eq_true (by first | (with_reducible assumption) | assumption)
                                    have q24 : x11_2 < (a0.size : Int) := of_decide_eq_true (by first | (with_reducible assumption) | assumption)
                                    have hx24 := bt_at a0 x11_2
                                    replace p24 := eq_true p24
                                    replace q24 := eq_true q24
                                    have p30 : 0 ≤ ((ji27) : Int) := of_decide_eq_true (by first | (with_reducible assumption) | assumption)
                                    have q30 : (ji27) < (a0.size : Int) := of_decide_eq_true (by first | (with_reducible assumption) | assumption)
                                    have hx30 := bt_at a0 (ji27)
                                    replace p30 := eq_true p30
                                    replace q30 := eq_true q30
                                    have p32 : 0 ≤ ((ji27) : Int) := of_decide_eq_true (by first | (with_reducible assumption) | assumption)
                                    have q32 : (ji27) < (a0.size : Int) := of_decide_eq_true (by first | (with_reducible assumption) | assumption)
                                    have hx32 := bt_at a0 (ji27)
                                    replace p32 := eq_true p32
                                    replace q32 := eq_true q32
                                    go_wp2
                                    go_ret
                                    exact ⟨by first | rfl | (simp [errW_none, errW_some] <;> rfl) | (simp only [← hji27]; first | rfl | (simp [errW_none, errW_some] <;> rfl)) | (simp [*, errW_none, errW_some] <;> rfl), by repeat (first | (with_reducible first | exact HB.out | apply below_alloc | apply pw_below_drewN | apply below_drew1) | exact HB.out)⟩
                                  · rw [if_neg c33] at H
                                    have c33b0 : ((bt a0 (ji27)) == 13) = false := beq_eq_false_iff_ne.mpr c33
                                    have c33b1 : ((bt a0 (ji27)) != 13) = true := bne_iff_ne.mpr c33
                                    by_cases c34 : x10_2 = true
                                    · subst c34
                                      have H1 : (if (bt a0 x11_2) ≥ 32 then (if (bt a0 x11_2) < 127 then (missivelaw07_CodecStays.l0 k2 a0 t190 t193 t194 t195 t196 true ji27) else (if (bt a0 x11_2) = 9 then (missivelaw07_CodecStays.l0 k2 a0 t190 t193 t194 t195 t196 true ji27) else (if (bt a0 x11_2) = 10 then (missivelaw07_CodecStays.l0 k2 a0 t190 t193 t194 t195 t196 true ji27) else (missivelaw07_CodecStays.l0 k2 a0 t190 t193 t194 t195 t196 ((bt a0 x11_2) == 13) ji27)))) else (if (bt a0 x11_2) = 9 then (missivelaw07_CodecStays.l0 k2 a0 t190 t193 t194 t195 t196 true ji27) else (if (bt a0 x11_2) = 10 then (missivelaw07_CodecStays.l0 k2 a0 t190 t193 t194 t195 t196 true ji27) else (missivelaw07_CodecStays.l0 k2 a0 t190 t193 t194 t195 t196 ((bt a0 x11_2) == 13) ji27)))) = some r := by rw [if_pos rfl] at H; exact H
                                      clear H
                                      have H := H1
                                      clear H1
                                      by_cases c36 : (bt a0 x11_2) ≥ 32
                                      · rw [if_pos c36] at H
                                        have c36b0 : decide (32 ≤ (bt a0 x11_2)) = true := decide_eq_true c36
                                        clear c36
                                        by_cases c38 : (bt a0 x11_2) < 127
                                        · rw [if_pos c38] at H
                                          have c38b0 : decide ((bt a0 x11_2) < 127) = true := decide_eq_true c38
                                          clear c38
                                          have H' := Aside0.mk H
                                          clear H
                                          have p18 : 0 ≤ (x11_2 : Int) := of_decide_eq_true (by first | (with_reducible assumption) | assumption)
                                          have q18 : x11_2 < (a0.size : Int) := of_decide_eq_true (by first | (with_reducible assumption) | assumption)
                                          have hx18 := bt_at a0 x11_2
                                          replace p18 := eq_true p18
                                          replace q18 := eq_true q18
                                          have p20 : 0 ≤ (x11_2 : Int) := of_decide_eq_true (by first | (with_reducible assumption) | assumption)
                                          have q20 : x11_2 < (a0.size : Int) := of_decide_eq_true (by first | (with_reducible assumption) | assumption)
                                          have hx20 := bt_at a0 x11_2
                                          replace p20 := eq_true p20
                                          replace q20 := eq_true q20
                                          have p22 : 0 ≤ (x11_2 : Int) := of_decide_eq_true (by first | (with_reducible assumption) | assumption)
                                          have q22 : x11_2 < (a0.size : Int) := of_decide_eq_true (by first | (with_reducible assumption) | assumption)
                                          have hx22 := bt_at a0 x11_2
                                          replace p22 := eq_true p22
                                          replace q22 := eq_true q22
                                          have p24 : 0 ≤ (x11_2 : Int) := of_decide_eq_true (by first | (with_reducible assumption) | assumption)
                                          have q24 : x11_2 < (a0.size : Int) := of_decide_eq_true (by first | (with_reducible assumption) | assumption)
                                          have hx24 := bt_at a0 x11_2
                                          replace p24 := eq_true p24
                                          replace q24 := eq_true q24
                                          have p30 : 0 ≤ ((ji27) : Int) := of_decide_eq_true (by first | (with_reducible assumption) | assumption)
                                          have q30 : (ji27) < (a0.size : Int) := of_decide_eq_true (by first | (with_reducible assumption) | assumption)
                                          have hx30 := bt_at a0 (ji27)
                                          replace p30 := eq_true p30
                                          replace q30 := eq_true q30
                                          have p32 : 0 ≤ ((ji27) : Int) := of_decide_eq_true (by first | (with_reducible assumption) | assumption)
                                          have q32 : (ji27) < (a0.size : Int) := of_decide_eq_true (by first | (with_reducible assumption) | assumption)
                                          have hx32 := bt_at a0 (ji27)
                                          replace p32 := eq_true p32
                                          replace q32 := eq_true q32
                                          have p35 : 0 ≤ (x11_2 : Int) := of_decide_eq_true (by first | (with_reducible assumption) | assumption)
                                          have q35 : x11_2 < (a0.size : Int) := of_decide_eq_true (by first | (with_reducible assumption) | assumption)
                                          have hx35 := bt_at a0 x11_2
                                          replace p35 := eq_true p35
                                          replace q35 := eq_true q35
                                          have p37 : 0 ≤ (x11_2 : Int) := of_decide_eq_true (by first | (with_reducible assumption) | assumption)
                                          have q37 : x11_2 < (a0.size : Int) := of_decide_eq_true (by first | (with_reducible assumption) | assumption)
                                          have hx37 := bt_at a0 x11_2
                                          replace p37 := eq_true p37
                                          replace q37 := eq_true q37
                                          go_wp2
                                          go_roundg k2
                                          case measure => have := HJ7.out; have := HK2.out; omega
                                          case rel => exact ⟨(true), (ji27), (by first | rfl | (simp; done) | (simp [*]; done)), (by first | rfl | (simp; done) | (simp only [← hji27] <;> (first | rfl | simp)) | (simp [*]; done)), H', ⟨by have := HJ7.out; have := HK2.out; omega⟩, ⟨by repeat (first | (with_reducible first | exact HB.out | apply below_alloc | apply pw_below_drewN | apply below_drew1) | exact HB.out)⟩⟩
                                        · rw [if_neg c38] at H
                                          have c38b0 : decide ((bt a0 x11_2) < 127) = false := decide_eq_false c38
                                          clear c38
                                          by_cases c40 : (bt a0 x11_2) = 9
                                          · rw [if_pos c40] at H
                                            have c40b0 : ((bt a0 x11_2) == 9) = true := beq_iff_eq.mpr c40
                                            have c40b1 : ((bt a0 x11_2) != 9) = false := bne_eq_false_iff_eq.mpr c40
                                            clear c40
                                            have H' := Aside0.mk H
                                            clear H
                                            have p18 : 0 ≤ (x11_2 : Int) := of_decide_eq_true (by first | (with_reducible assumption) | assumption)
                                            have q18 : x11_2 < (a0.size : Int) := of_decide_eq_true (by first | (with_reducible assumption) | assumption)
                                            have hx18 := bt_at a0 x11_2
                                            replace p18 := eq_true p18
                                            replace q18 := eq_true q18
                                            have p20 : 0 ≤ (x11_2 : Int) := of_decide_eq_true (by first | (with_reducible assumption) | assumption)
                                            have q20 : x11_2 < (a0.size : Int) := of_decide_eq_true (by first | (with_reducible assumption) | assumption)
                                            have hx20 := bt_at a0 x11_2
                                            replace p20 := eq_true p20
                                            replace q20 := eq_true q20
                                            have p22 : 0 ≤ (x11_2 : Int) := of_decide_eq_true (by first | (with_reducible assumption) | assumption)
                                            have q22 : x11_2 < (a0.size : Int) := of_decide_eq_true (by first | (with_reducible assumption) | assumption)
                                            have hx22 := bt_at a0 x11_2
                                            replace p22 := eq_true p22
                                            replace q22 := eq_true q22
                                            have p24 : 0 ≤ (x11_2 : Int) := of_decide_eq_true (by first | (with_reducible assumption) | assumption)
                                            have q24 : x11_2 < (a0.size : Int) := of_decide_eq_true (by first | (with_reducible assumption) | assumption)
                                            have hx24 := bt_at a0 x11_2
                                            replace p24 := eq_true p24
                                            replace q24 := eq_true q24
                                            have p30 : 0 ≤ ((ji27) : Int) := of_decide_eq_true (by first | (with_reducible assumption) | assumption)
                                            have q30 : (ji27) < (a0.size : Int) := of_decide_eq_true (by first | (with_reducible assumption) | assumption)
                                            have hx30 := bt_at a0 (ji27)
                                            replace p30 := eq_true p30
                                            replace q30 := eq_true q30
                                            have p32 : 0 ≤ ((ji27) : Int) := of_decide_eq_true (by first | (with_reducible assumption) | assumption)
                                            have q32 : (ji27) < (a0.size : Int) := of_decide_eq_true (by first | (with_reducible assumption) | assumption)
                                            have hx32 := bt_at a0 (ji27)
                                            replace p32 := eq_true p32
                                            replace q32 := eq_true q32
                                            have p35 : 0 ≤ (x11_2 : Int) := of_decide_eq_true (by first | (with_reducible assumption) | assumption)
                                            have q35 : x11_2 < (a0.size : Int) := of_decide_eq_true (by first | (with_reducible assumption) | assumption)
                                            have hx35 := bt_at a0 x11_2
                                            replace p35 := eq_true p35
                                            replace q35 := eq_true q35
                                            have p37 : 0 ≤ (x11_2 : Int) := of_decide_eq_true (by first | (with_reducible assumption) | assumption)
                                            have q37 : x11_2 < (a0.size : Int) := of_decide_eq_true (by first | (with_reducible assumption) | assumption)
                                            have hx37 := bt_at a0 x11_2
                                            replace p37 := eq_true p37
                                            replace q37 := eq_true q37
                                            have p39 : 0 ≤ (x11_2 : Int) := of_decide_eq_true (by first | (with_reducible assumption) | assumption)
                                            have q39 : x11_2 < (a0.size : Int) := of_decide_eq_true (by first | (with_reducible assumption) | assumption)
                                            have hx39 := bt_at a0 x11_2
                                            replace p39 := eq_true p39
                                            replace q39 := eq_true q39
                                            go_wp2
                                            go_roundg k2
                                            case measure => have := HJ7.out; have := HK2.out; omega
                                            case rel => exact ⟨(true), (ji27), (by first | rfl | (simp; done) | (simp [*]; done)), (by first | rfl | (simp; done) | (simp only [← hji27] <;> (first | rfl | simp)) | (simp [*]; done)), H', ⟨by have := HJ7.out; have := HK2.out; omega⟩, ⟨by repeat (first | (with_reducible first | exact HB.out | apply below_alloc | apply pw_below_drewN | apply below_drew1) | exact HB.out)⟩⟩
                                          · rw [if_neg c40] at H
                                            have c40b0 : ((bt a0 x11_2) == 9) = false := beq_eq_false_iff_ne.mpr c40
                                            have c40b1 : ((bt a0 x11_2) != 9) = true := bne_iff_ne.mpr c40
                                            by_cases c42 : (bt a0 x11_2) = 10
                                            · rw [if_pos c42] at H
                                              have c42b0 : ((bt a0 x11_2) == 10) = true := beq_iff_eq.mpr c42
                                              have c42b1 : ((bt a0 x11_2) != 10) = false := bne_eq_false_iff_eq.mpr c42
                                              clear c42
                                              have H' := Aside0.mk H
                                              clear H
                                              have p18 : 0 ≤ (x11_2 : Int) := of_decide_eq_true (by first | (with_reducible assumption) | assumption)
                                              have q18 : x11_2 < (a0.size : Int) := of_decide_eq_true (by first | (with_reducible assumption) | assumption)
                                              have hx18 := bt_at a0 x11_2
                                              replace p18 := eq_true p18
                                              replace q18 := eq_true q18
                                              have p20 : 0 ≤ (x11_2 : Int) := of_decide_eq_true (by first | (with_reducible assumption) | assumption)
                                              have q20 : x11_2 < (a0.size : Int) := of_decide_eq_true (by first | (with_reducible assumption) | assumption)
                                              have hx20 := bt_at a0 x11_2
                                              replace p20 := eq_true p20
                                              replace q20 := eq_true q20
                                              have p22 : 0 ≤ (x11_2 : Int) := of_decide_eq_true (by first | (with_reducible assumption) | assumption)
                                              have q22 : x11_2 < (a0.size : Int) := of_decide_eq_true (by first | (with_reducible assumption) | assumption)
                                              have hx22 := bt_at a0 x11_2
                                              replace p22 := eq_true p22
                                              replace q22 := eq_true q22
                                              have p24 : 0 ≤ (x11_2 : Int) := of_decide_eq_true (by first | (with_reducible assumption) | assumption)
                                              have q24 : x11_2 < (a0.size : Int) := of_decide_eq_true (by first | (with_reducible assumption) | assumption)
                                              have hx24 := bt_at a0 x11_2
                                              replace p24 := eq_true p24
                                              replace q24 := eq_true q24
                                              have p30 : 0 ≤ ((ji27) : Int) := of_decide_eq_true (by first | (with_reducible assumption) | assumption)
                                              have q30 : (ji27) < (a0.size : Int) := of_decide_eq_true (by first | (with_reducible assumption) | assumption)
                                              have hx30 := bt_at a0 (ji27)
                                              replace p30 := eq_true p30
                                              replace q30 := eq_true q30
                                              have p32 : 0 ≤ ((ji27) : Int) := of_decide_eq_true (by first | (with_reducible assumption) | assumption)
                                              have q32 : (ji27) < (a0.size : Int) := of_decide_eq_true (by first | (with_reducible assumption) | assumption)
                                              have hx32 := bt_at a0 (ji27)
                                              replace p32 := eq_true p32
                                              replace q32 := eq_true q32
                                              have p35 : 0 ≤ (x11_2 : Int) := of_decide_eq_true (by first | (with_reducible assumption) | assumption)
                                              have q35 : x11_2 < (a0.size : Int) := of_decide_eq_true (by first | (with_reducible assumption) | assumption)
                                              have hx35 := bt_at a0 x11_2
                                              replace p35 := eq_true p35
                                              replace q35 := eq_true q35
                                              have p37 : 0 ≤ (x11_2 : Int) := of_decide_eq_true (by first | (with_reducible assumption) | assumption)
                                              have q37 : x11_2 < (a0.size : Int) := of_decide_eq_true (by first | (with_reducible assumption) | assumption)
                                              have hx37 := bt_at a0 x11_2
                                              replace p37 := eq_true p37
                                              replace q37 := eq_true q37
                                              have p39 : 0 ≤ (x11_2 : Int) := of_decide_eq_true (by first | (with_reducible assumption) | assumption)
                                              have q39 : x11_2 < (a0.size : Int) := of_decide_eq_true (by first | (with_reducible assumption) | assumption)
                                              have hx39 := bt_at a0 x11_2
                                              replace p39 := eq_true p39
                                              replace q39 := eq_true q39
                                              have p41 : 0 ≤ (x11_2 : Int) := of_decide_eq_true (by first | (with_reducible assumption) | assumption)
                                              have q41 : x11_2 < (a0.size : Int) := of_decide_eq_true (by first | (with_reducible assumption) | assumption)
                                              have hx41 := bt_at a0 x11_2
                                              replace p41 := eq_true p41
                                              replace q41 := eq_true q41
                                              go_wp2
                                              go_roundg k2
                                              case measure => have := HJ7.out; have := HK2.out; omega
                                              case rel => exact ⟨(true), (ji27), (by first | rfl | (simp; done) | (simp [*]; done)), (by first | rfl | (simp; done) | (simp only [← hji27] <;> (first | rfl | simp)) | (simp [*]; done)), H', ⟨by have := HJ7.out; have := HK2.out; omega⟩, ⟨by repeat (first | (with_reducible first | exact HB.out | apply below_alloc | apply pw_below_drewN | apply below_drew1) | exact HB.out)⟩⟩
                                            · rw [if_neg c42] at H
                                              have c42b0 : ((bt a0 x11_2) == 10) = false := beq_eq_false_iff_ne.mpr c42
                                              have c42b1 : ((bt a0 x11_2) != 10) = true := bne_iff_ne.mpr c42
                                              have H' := Aside0.mk H
                                              clear H
                                              have p18 : 0 ≤ (x11_2 : Int) := of_decide_eq_true (by first | (with_reducible assumption) | assumption)
                                              have q18 : x11_2 < (a0.size : Int) := of_decide_eq_true (by first | (with_reducible assumption) | assumption)
                                              have hx18 := bt_at a0 x11_2
                                              replace p18 := eq_true p18
                                              replace q18 := eq_true q18
                                              have p20 : 0 ≤ (x11_2 : Int) := of_decide_eq_true (by first | (with_reducible assumption) | assumption)
                                              have q20 : x11_2 < (a0.size : Int) := of_decide_eq_true (by first | (with_reducible assumption) | assumption)
                                              have hx20 := bt_at a0 x11_2
                                              replace p20 := eq_true p20
                                              replace q20 := eq_true q20
                                              have p22 : 0 ≤ (x11_2 : Int) := of_decide_eq_true (by first | (with_reducible assumption) | assumption)
                                              have q22 : x11_2 < (a0.size : Int) := of_decide_eq_true (by first | (with_reducible assumption) | assumption)
                                              have hx22 := bt_at a0 x11_2
                                              replace p22 := eq_true p22
                                              replace q22 := eq_true q22
                                              have p24 : 0 ≤ (x11_2 : Int) := of_decide_eq_true (by first | (with_reducible assumption) | assumption)
                                              have q24 : x11_2 < (a0.size : Int) := of_decide_eq_true (by first | (with_reducible assumption) | assumption)
                                              have hx24 := bt_at a0 x11_2
                                              replace p24 := eq_true p24
                                              replace q24 := eq_true q24
                                              have p30 : 0 ≤ ((ji27) : Int) := of_decide_eq_true (by first | (with_reducible assumption) | assumption)
                                              have q30 : (ji27) < (a0.size : Int) := of_decide_eq_true (by first | (with_reducible assumption) | assumption)
                                              have hx30 := bt_at a0 (ji27)
                                              replace p30 := eq_true p30
                                              replace q30 := eq_true q30
                                              have p32 : 0 ≤ ((ji27) : Int) := of_decide_eq_true (by first | (with_reducible assumption) | assumption)
                                              have q32 : (ji27) < (a0.size : Int) := of_decide_eq_true (by first | (with_reducible assumption) | assumption)
                                              have hx32 := bt_at a0 (ji27)
                                              replace p32 := eq_true p32
                                              replace q32 := eq_true q32
                                              have p35 : 0 ≤ (x11_2 : Int) := of_decide_eq_true (by first | (with_reducible assumption) | assumption)
                                              have q35 : x11_2 < (a0.size : Int) := of_decide_eq_true (by first | (with_reducible assumption) | assumption)
                                              have hx35 := bt_at a0 x11_2
                                              replace p35 := eq_true p35
                                              replace q35 := eq_true q35
                                              have p37 : 0 ≤ (x11_2 : Int) := of_decide_eq_true (by first | (with_reducible assumption) | assumption)
                                              have q37 : x11_2 < (a0.size : Int) := of_decide_eq_true (by first | (with_reducible assumption) | assumption)
                                              have hx37 := bt_at a0 x11_2
                                              replace p37 := eq_true p37
                                              replace q37 := eq_true q37
                                              have p39 : 0 ≤ (x11_2 : Int) := of_decide_eq_true (by first | (with_reducible assumption) | assumption)
                                              have q39 : x11_2 < (a0.size : Int) := of_decide_eq_true (by first | (with_reducible assumption) | assumption)
                                              have hx39 := bt_at a0 x11_2
                                              replace p39 := eq_true p39
                                              replace q39 := eq_true q39
                                              have p41 : 0 ≤ (x11_2 : Int) := of_decide_eq_true (by first | (with_reducible assumption) | assumption)
                                              have q41 : x11_2 < (a0.size : Int) := of_decide_eq_true (by first | (with_reducible assumption) | assumption)
                                              have hx41 := bt_at a0 x11_2
                                              replace p41 := eq_true p41
                                              replace q41 := eq_true q41
                                              have p43 : 0 ≤ (x11_2 : Int) := of_decide_eq_true (by first | (with_reducible assumption) | assumption)
                                              have q43 : x11_2 < (a0.size : Int) := of_decide_eq_true (by first | (with_reducible assumption) | assumption)
                                              have hx43 := bt_at a0 x11_2
                                              replace p43 := eq_true p43
                                              replace q43 := eq_true q43
                                              go_wp2
                                              go_roundg k2
                                              case measure => have := HJ7.out; have := HK2.out; omega
                                              case rel => exact ⟨(((bt a0 x11_2) == 13)), (ji27), (by first | rfl | (simp; done) | (simp [*]; done)), (by first | rfl | (simp; done) | (simp only [← hji27] <;> (first | rfl | simp)) | (simp [*]; done)), H', ⟨by have := HJ7.out; have := HK2.out; omega⟩, ⟨by repeat (first | (with_reducible first | exact HB.out | apply below_alloc | apply pw_below_drewN | apply below_drew1) | exact HB.out)⟩⟩
                                      · rw [if_neg c36] at H
                                        have c36b0 : decide (32 ≤ (bt a0 x11_2)) = false := decide_eq_false c36
                                        clear c36
                                        by_cases c45 : (bt a0 x11_2) = 9
                                        · rw [if_pos c45] at H
                                          have c45b0 : ((bt a0 x11_2) == 9) = true := beq_iff_eq.mpr c45
                                          have c45b1 : ((bt a0 x11_2) != 9) = false := bne_eq_false_iff_eq.mpr c45
                                          clear c45
                                          have H' := Aside0.mk H
                                          clear H
                                          have p18 : 0 ≤ (x11_2 : Int) := of_decide_eq_true (by first | (with_reducible assumption) | assumption)
                                          have q18 : x11_2 < (a0.size : Int) := of_decide_eq_true (by first | (with_reducible assumption) | assumption)
                                          have hx18 := bt_at a0 x11_2
                                          replace p18 := eq_true p18
                                          replace q18 := eq_true q18
                                          have p20 : 0 ≤ (x11_2 : Int) := of_decide_eq_true (by first | (with_reducible assumption) | assumption)
                                          have q20 : x11_2 < (a0.size : Int) := of_decide_eq_true (by first | (with_reducible assumption) | assumption)
                                          have hx20 := bt_at a0 x11_2
                                          replace p20 := eq_true p20
                                          replace q20 := eq_true q20
                                          have p22 : 0 ≤ (x11_2 : Int) := of_decide_eq_true (by first | (with_reducible assumption) | assumption)
                                          have q22 : x11_2 < (a0.size : Int) := of_decide_eq_true (by first | (with_reducible assumption) | assumption)
                                          have hx22 := bt_at a0 x11_2
                                          replace p22 := eq_true p22
                                          replace q22 := eq_true q22
                                          have p24 : 0 ≤ (x11_2 : Int) := of_decide_eq_true (by first | (with_reducible assumption) | assumption)
                                          have q24 : x11_2 < (a0.size : Int) := of_decide_eq_true (by first | (with_reducible assumption) | assumption)
                                          have hx24 := bt_at a0 x11_2
                                          replace p24 := eq_true p24
                                          replace q24 := eq_true q24
                                          have p30 : 0 ≤ ((ji27) : Int) := of_decide_eq_true (by first | (with_reducible assumption) | assumption)
                                          have q30 : (ji27) < (a0.size : Int) := of_decide_eq_true (by first | (with_reducible assumption) | assumption)
                                          have hx30 := bt_at a0 (ji27)
                                          replace p30 := eq_true p30
                                          replace q30 := eq_true q30
                                          have p32 : 0 ≤ ((ji27) : Int) := of_decide_eq_true (by first | (with_reducible assumption) | assumption)
                                          have q32 : (ji27) < (a0.size : Int) := of_decide_eq_true (by first | (with_reducible assumption) | assumption)
                                          have hx32 := bt_at a0 (ji27)
                                          replace p32 := eq_true p32
                                          replace q32 := eq_true q32
                                          have p35 : 0 ≤ (x11_2 : Int) := of_decide_eq_true (by first | (with_reducible assumption) | assumption)
                                          have q35 : x11_2 < (a0.size : Int) := of_decide_eq_true (by first | (with_reducible assumption) | assumption)
                                          have hx35 := bt_at a0 x11_2
                                          replace p35 := eq_true p35
                                          replace q35 := eq_true q35
                                          have p44 : 0 ≤ (x11_2 : Int) := of_decide_eq_true (by first | (with_reducible assumption) | assumption)
                                          have q44 : x11_2 < (a0.size : Int) := of_decide_eq_true (by first | (with_reducible assumption) | assumption)
                                          have hx44 := bt_at a0 x11_2
                                          replace p44 := eq_true p44
                                          replace q44 := eq_true q44
                                          go_wp2
                                          go_roundg k2
                                          case measure => have := HJ7.out; have := HK2.out; omega
                                          case rel => exact ⟨(true), (ji27), (by first | rfl | (simp; done) | (simp [*]; done)), (by first | rfl | (simp; done) | (simp only [← hji27] <;> (first | rfl | simp)) | (simp [*]; done)), H', ⟨by have := HJ7.out; have := HK2.out; omega⟩, ⟨by repeat (first | (with_reducible first | exact HB.out | apply below_alloc | apply pw_below_drewN | apply below_drew1) | exact HB.out)⟩⟩
                                        · rw [if_neg c45] at H
                                          have c45b0 : ((bt a0 x11_2) == 9) = false := beq_eq_false_iff_ne.mpr c45
                                          have c45b1 : ((bt a0 x11_2) != 9) = true := bne_iff_ne.mpr c45
                                          by_cases c47 : (bt a0 x11_2) = 10
                                          · rw [if_pos c47] at H
                                            have c47b0 : ((bt a0 x11_2) == 10) = true := beq_iff_eq.mpr c47
                                            have c47b1 : ((bt a0 x11_2) != 10) = false := bne_eq_false_iff_eq.mpr c47
                                            clear c47
                                            have H' := Aside0.mk H
                                            clear H
                                            have p18 : 0 ≤ (x11_2 : Int) := of_decide_eq_true (by first | (with_reducible assumption) | assumption)
                                            have q18 : x11_2 < (a0.size : Int) := of_decide_eq_true (by first | (with_reducible assumption) | assumption)
                                            have hx18 := bt_at a0 x11_2
                                            replace p18 := eq_true p18
                                            replace q18 := eq_true q18
                                            have p20 : 0 ≤ (x11_2 : Int) := of_decide_eq_true (by first | (with_reducible assumption) | assumption)
                                            have q20 : x11_2 < (a0.size : Int) := of_decide_eq_true (by first | (with_reducible assumption) | assumption)
                                            have hx20 := bt_at a0 x11_2
                                            replace p20 := eq_true p20
                                            replace q20 := eq_true q20
                                            have p22 : 0 ≤ (x11_2 : Int) := of_decide_eq_true (by first | (with_reducible assumption) | assumption)
                                            have q22 : x11_2 < (a0.size : Int) := of_decide_eq_true (by first | (with_reducible assumption) | assumption)
                                            have hx22 := bt_at a0 x11_2
                                            replace p22 := eq_true p22
                                            replace q22 := eq_true q22
                                            have p24 : 0 ≤ (x11_2 : Int) := of_decide_eq_true (by first | (with_reducible assumption) | assumption)
                                            have q24 : x11_2 < (a0.size : Int) := of_decide_eq_true (by first | (with_reducible assumption) | assumption)
                                            have hx24 := bt_at a0 x11_2
                                            replace p24 := eq_true p24
                                            replace q24 := eq_true q24
                                            have p30 : 0 ≤ ((ji27) : Int) := of_decide_eq_true (by first | (with_reducible assumption) | assumption)
                                            have q30 : (ji27) < (a0.size : Int) := of_decide_eq_true (by first | (with_reducible assumption) | assumption)
                                            have hx30 := bt_at a0 (ji27)
                                            replace p30 := eq_true p30
                                            replace q30 := eq_true q30
                                            have p32 : 0 ≤ ((ji27) : Int) := of_decide_eq_true (by first | (with_reducible assumption) | assumption)
                                            have q32 : (ji27) < (a0.size : Int) := of_decide_eq_true (by first | (with_reducible assumption) | assumption)
                                            have hx32 := bt_at a0 (ji27)
                                            replace p32 := eq_true p32
                                            replace q32 := eq_true q32
                                            have p35 : 0 ≤ (x11_2 : Int) := of_decide_eq_true (by first | (with_reducible assumption) | assumption)
                                            have q35 : x11_2 < (a0.size : Int) := of_decide_eq_true (by first | (with_reducible assumption) | assumption)
                                            have hx35 := bt_at a0 x11_2
                                            replace p35 := eq_true p35
                                            replace q35 := eq_true q35
                                            have p44 : 0 ≤ (x11_2 : Int) := of_decide_eq_true (by first | (with_reducible assumption) | assumption)
                                            have q44 : x11_2 < (a0.size : Int) := of_decide_eq_true (by first | (with_reducible assumption) | assumption)
                                            have hx44 := bt_at a0 x11_2
                                            replace p44 := eq_true p44
                                            replace q44 := eq_true q44
                                            have p46 : 0 ≤ (x11_2 : Int) := of_decide_eq_true (by first | (with_reducible assumption) | assumption)
                                            have q46 : x11_2 < (a0.size : Int) := of_decide_eq_true (by first | (with_reducible assumption) | assumption)
                                            have hx46 := bt_at a0 x11_2
                                            replace p46 := eq_true p46
                                            replace q46 := eq_true q46
                                            go_wp2
                                            go_roundg k2
                                            case measure => have := HJ7.out; have := HK2.out; omega
                                            case rel => exact ⟨(true), (ji27), (by first | rfl | (simp; done) | (simp [*]; done)), (by first | rfl | (simp; done) | (simp only [← hji27] <;> (first | rfl | simp)) | (simp [*]; done)), H', ⟨by have := HJ7.out; have := HK2.out; omega⟩, ⟨by repeat (first | (with_reducible first | exact HB.out | apply below_alloc | apply pw_below_drewN | apply below_drew1) | exact HB.out)⟩⟩
                                          · rw [if_neg c47] at H
                                            have c47b0 : ((bt a0 x11_2) == 10) = false := beq_eq_false_iff_ne.mpr c47
                                            have c47b1 : ((bt a0 x11_2) != 10) = true := bne_iff_ne.mpr c47
                                            have H' := Aside0.mk H
                                            clear H
                                            have p18 : 0 ≤ (x11_2 : Int) := of_decide_eq_true (by first | (with_reducible assumption) | assumption)
                                            have q18 : x11_2 < (a0.size : Int) := of_decide_eq_true (by first | (with_reducible assumption) | assumption)
                                            have hx18 := bt_at a0 x11_2
                                            replace p18 := eq_true p18
                                            replace q18 := eq_true q18
                                            have p20 : 0 ≤ (x11_2 : Int) := of_decide_eq_true (by first | (with_reducible assumption) | assumption)
                                            have q20 : x11_2 < (a0.size : Int) := of_decide_eq_true (by first | (with_reducible assumption) | assumption)
                                            have hx20 := bt_at a0 x11_2
                                            replace p20 := eq_true p20
                                            replace q20 := eq_true q20
                                            have p22 : 0 ≤ (x11_2 : Int) := of_decide_eq_true (by first | (with_reducible assumption) | assumption)
                                            have q22 : x11_2 < (a0.size : Int) := of_decide_eq_true (by first | (with_reducible assumption) | assumption)
                                            have hx22 := bt_at a0 x11_2
                                            replace p22 := eq_true p22
                                            replace q22 := eq_true q22
                                            have p24 : 0 ≤ (x11_2 : Int) := of_decide_eq_true (by first | (with_reducible assumption) | assumption)
                                            have q24 : x11_2 < (a0.size : Int) := of_decide_eq_true (by first | (with_reducible assumption) | assumption)
                                            have hx24 := bt_at a0 x11_2
                                            replace p24 := eq_true p24
                                            replace q24 := eq_true q24
                                            have p30 : 0 ≤ ((ji27) : Int) := of_decide_eq_true (by first | (with_reducible assumption) | assumption)
                                            have q30 : (ji27) < (a0.size : Int) := of_decide_eq_true (by first | (with_reducible assumption) | assumption)
                                            have hx30 := bt_at a0 (ji27)
                                            replace p30 := eq_true p30
                                            replace q30 := eq_true q30
                                            have p32 : 0 ≤ ((ji27) : Int) := of_decide_eq_true (by first | (with_reducible assumption) | assumption)
                                            have q32 : (ji27) < (a0.size : Int) := of_decide_eq_true (by first | (with_reducible assumption) | assumption)
                                            have hx32 := bt_at a0 (ji27)
                                            replace p32 := eq_true p32
                                            replace q32 := eq_true q32
                                            have p35 : 0 ≤ (x11_2 : Int) := of_decide_eq_true (by first | (with_reducible assumption) | assumption)
                                            have q35 : x11_2 < (a0.size : Int) := of_decide_eq_true (by first | (with_reducible assumption) | assumption)
                                            have hx35 := bt_at a0 x11_2
                                            replace p35 := eq_true p35
                                            replace q35 := eq_true q35
                                            have p44 : 0 ≤ (x11_2 : Int) := of_decide_eq_true (by first | (with_reducible assumption) | assumption)
                                            have q44 : x11_2 < (a0.size : Int) := of_decide_eq_true (by first | (with_reducible assumption) | assumption)
                                            have hx44 := bt_at a0 x11_2
                                            replace p44 := eq_true p44
                                            replace q44 := eq_true q44
                                            have p46 : 0 ≤ (x11_2 : Int) := of_decide_eq_true (by first | (with_reducible assumption) | assumption)
                                            have q46 : x11_2 < (a0.size : Int) := of_decide_eq_true (by first | (with_reducible assumption) | assumption)
                                            have hx46 := bt_at a0 x11_2
                                            replace p46 := eq_true p46
                                            replace q46 := eq_true q46
                                            have p48 : 0 ≤ (x11_2 : Int) := of_decide_eq_true (by first | (with_reducible assumption) | assumption)
                                            have q48 : x11_2 < (a0.size : Int) := of_decide_eq_true (by first | (with_reducible assumption) | assumption)
                                            have hx48 := bt_at a0 x11_2
                                            replace p48 := eq_true p48
                                            replace q48 := eq_true q48
                                            go_wp2
                                            go_roundg k2
                                            case measure => have := HJ7.out; have := HK2.out; omega
                                            case rel => exact ⟨(((bt a0 x11_2) == 13)), (ji27), (by first | rfl | (simp; done) | (simp [*]; done)), (by first | rfl | (simp; done) | (simp only [← hji27] <;> (first | rfl | simp)) | (simp [*]; done)), H', ⟨by have := HJ7.out; have := HK2.out; omega⟩, ⟨by repeat (first | (with_reducible first | exact HB.out | apply below_alloc | apply pw_below_drewN | apply below_drew1) | exact HB.out)⟩⟩
                                    · replace c34 := Bool.eq_false_iff.mpr c34
                                      subst c34
                                      have H1 : (missivelaw07_CodecStays.l0 k2 a0 t190 t193 t194 t195 t196 false ji27) = some r := by rw [if_neg (show ¬ (false = true) by decide)] at H; exact H
                                      clear H
                                      have H := H1
                                      clear H1
                                      have H' := Aside0.mk H
                                      clear H
                                      have p18 : 0 ≤ (x11_2 : Int) := of_decide_eq_true (by first | (with_reducible assumption) | assumption)
                                      have q18 : x11_2 < (a0.size : Int) := of_decide_eq_true (by first | (with_reducible assumption) | assumption)
                                      have hx18 := bt_at a0 x11_2
                                      replace p18 := eq_true p18
                                      replace q18 := eq_true q18
                                      have p20 : 0 ≤ (x11_2 : Int) := of_decide_eq_true (by first | (with_reducible assumption) | assumption)
                                      have q20 : x11_2 < (a0.size : Int) := of_decide_eq_true (by first | (with_reducible assumption) | assumption)
                                      have hx20 := bt_at a0 x11_2
                                      replace p20 := eq_true p20
                                      replace q20 := eq_true q20
                                      have p22 : 0 ≤ (x11_2 : Int) := of_decide_eq_true (by first | (with_reducible assumption) | assumption)
                                      have q22 : x11_2 < (a0.size : Int) := of_decide_eq_true (by first | (with_reducible assumption) | assumption)
                                      have hx22 := bt_at a0 x11_2
                                      replace p22 := eq_true p22
                                      replace q22 := eq_true q22
                                      have p24 : 0 ≤ (x11_2 : Int) := of_decide_eq_true (by first | (with_reducible assumption) | assumption)
                                      have q24 : x11_2 < (a0.size : Int) := of_decide_eq_true (by first | (with_reducible assumption) | assumption)
                                      have hx24 := bt_at a0 x11_2
                                      replace p24 := eq_true p24
                                      replace q24 := eq_true q24
                                      have p30 : 0 ≤ ((ji27) : Int) := of_decide_eq_true (by first | (with_reducible assumption) | assumption)
                                      have q30 : (ji27) < (a0.size : Int) := of_decide_eq_true (by first | (with_reducible assumption) | assumption)
                                      have hx30 := bt_at a0 (ji27)
                                      replace p30 := eq_true p30
                                      replace q30 := eq_true q30
                                      have p32 : 0 ≤ ((ji27) : Int) := of_decide_eq_true (by first | (with_reducible assumption) | assumption)
                                      have q32 : (ji27) < (a0.size : Int) := of_decide_eq_true (by first | (with_reducible assumption) | assumption)
                                      have hx32 := bt_at a0 (ji27)
                                      replace p32 := eq_true p32
                                      replace q32 := eq_true q32
                                      go_wp2
                                      go_roundg k2
                                      case measure => have := HJ7.out; have := HK2.out; omega
                                      case rel => exact ⟨(false), (ji27), (by first | rfl | (simp; done) | (simp [*]; done)), (by first | rfl | (simp; done) | (simp only [← hji27] <;> (first | rfl | simp)) | (simp [*]; done)), H', ⟨by have := HJ7.out; have := HK2.out; omega⟩, ⟨by repeat (first | (with_reducible first | exact HB.out | apply below_alloc | apply pw_below_drewN | apply below_drew1) | exact HB.out)⟩⟩
                              · rw [if_neg c29] at H
                                exact absurd H (by simp)
                            · rw [if_neg c28] at H
                              exact absurd H (by simp)
                        · rw [if_neg c25] at H
                          have c25b0 : ((bt a0 x11_2) == 32) = false := beq_eq_false_iff_ne.mpr c25
                          have c25b1 : ((bt a0 x11_2) != 32) = true := bne_iff_ne.mpr c25
                          by_cases c50 : (bt a0 x11_2) = 9
                          · rw [if_pos c50] at H
                            have c50b0 : ((bt a0 x11_2) == 9) = true := beq_iff_eq.mpr c50
                            have c50b1 : ((bt a0 x11_2) != 9) = false := bne_eq_false_iff_eq.mpr c50
                            clear c50
                            by_cases c51 : (wrap64 (x11_2 + 1)) = (a0.size : Int)
                            · rw [if_pos c51] at H
                              have c51b0 : ((wrap64 (x11_2 + 1)) == (a0.size : Int)) = true := beq_iff_eq.mpr c51
                              have c51b1 : ((wrap64 (x11_2 + 1)) != (a0.size : Int)) = false := bne_eq_false_iff_eq.mpr c51
                              clear c51
                              obtain rfl := Option.some.inj H
                              have p18 : 0 ≤ (x11_2 : Int) := of_decide_eq_true (by first | (with_reducible assumption) | assumption)
                              have q18 : x11_2 < (a0.size : Int) := of_decide_eq_true (by first | (with_reducible assumption) | assumption)
                              have hx18 := bt_at a0 x11_2
                              replace p18 := eq_true p18
                              replace q18 := eq_true q18
                              have p20 : 0 ≤ (x11_2 : Int) := of_decide_eq_true (by first | (with_reducible assumption) | assumption)
                              have q20 : x11_2 < (a0.size : Int) := of_decide_eq_true (by first | (with_reducible assumption) | assumption)
                              have hx20 := bt_at a0 x11_2
                              replace p20 := eq_true p20
                              replace q20 := eq_true q20
                              have p22 : 0 ≤ (x11_2 : Int) := of_decide_eq_true (by first | (with_reducible assumption) | assumption)
                              have q22 : x11_2 < (a0.size : Int) := of_decide_eq_true (by first | (with_reducible assumption) | assumption)
                              have hx22 := bt_at a0 x11_2
                              replace p22 := eq_true p22
                              replace q22 := eq_true q22
                              have p24 : 0 ≤ (x11_2 : Int) := of_decide_eq_true (by first | (with_reducible assumption) | assumption)
                              have q24 : x11_2 < (a0.size : Int) := of_decide_eq_true (by first | (with_reducible assumption) | assumption)
                              have hx24 := bt_at a0 x11_2
                              replace p24 := eq_true p24
                              replace q24 := eq_true q24
                              have p49 : 0 ≤ (x11_2 : Int) := of_decide_eq_true (by first | (with_reducible assumption) | assumption)
                              have q49 : x11_2 < (a0.size : Int) := of_decide_eq_true (by first | (with_reducible assumption) | assumption)
                              have hx49 := bt_at a0 x11_2
                              replace p49 := eq_true p49
                              replace q49 := eq_true q49
                              go_wp2
                              go_ret
                              exact ⟨by first | rfl | (simp [errW_none, errW_some] <;> rfl) | (simp [*, errW_none, errW_some] <;> rfl), by repeat (first | (with_reducible first | exact HB.out | apply below_alloc | apply pw_below_drewN | apply below_drew1) | exact HB.out)⟩
                            · rw [if_neg c51] at H
                              have c51b0 : ((wrap64 (x11_2 + 1)) == (a0.size : Int)) = false := beq_eq_false_iff_ne.mpr c51
                              have c51b1 : ((wrap64 (x11_2 + 1)) != (a0.size : Int)) = true := bne_iff_ne.mpr c51
                              obtain ⟨ji52, hji52⟩ : ∃ j_ : Int, (wrap64 (x11_2 + 1)) = j_ := ⟨_, rfl⟩
                              replace H : (if 0 ≤ (ji52) then (if (ji52) < (a0.size : Int) then (if (bt a0 (ji52)) = 10 then (some t190) else (if (bt a0 (ji52)) = 13 then (some t190) else (if x10_2 = true then (if (bt a0 x11_2) ≥ 32 then (if (bt a0 x11_2) < 127 then (missivelaw07_CodecStays.l0 k2 a0 t190 t193 t194 t195 t196 true ji52) else (missivelaw07_CodecStays.l0 k2 a0 t190 t193 t194 t195 t196 true ji52)) else (missivelaw07_CodecStays.l0 k2 a0 t190 t193 t194 t195 t196 true ji52)) else (missivelaw07_CodecStays.l0 k2 a0 t190 t193 t194 t195 t196 false ji52)))) else (none)) else (none)) = some r := by first | (rw [hji52] at H; exact H) | (simp only [hji52] at H ⊢; exact H)
                              (try rw [hji52] at c51b0)
                              (try rw [hji52] at c51b1)
                              have hji52w : (IntKind.i64.wrap (x11_2 + 1)) = ji52 := (i64_w _).trans hji52
                              by_cases c53 : 0 ≤ (ji52)
                              · rw [if_pos c53] at H
                                have c53b0 : decide (0 ≤ (ji52)) = true := decide_eq_true c53
                                clear c53
                                by_cases c54 : (ji52) < (a0.size : Int)
                                · rw [if_pos c54] at H
                                  have c54b0 : decide ((ji52) < (a0.size : Int)) = true := decide_eq_true c54
                                  clear c54
                                  by_cases c56 : (bt a0 (ji52)) = 10
                                  · rw [if_pos c56] at H
                                    have c56b0 : ((bt a0 (ji52)) == 10) = true := beq_iff_eq.mpr c56
                                    have c56b1 : ((bt a0 (ji52)) != 10) = false := bne_eq_false_iff_eq.mpr c56
                                    clear c56
                                    obtain rfl := Option.some.inj H
                                    have p18 : 0 ≤ (x11_2 : Int) := of_decide_eq_true (by first | (with_reducible assumption) | assumption)
                                    have q18 : x11_2 < (a0.size : Int) := of_decide_eq_true (by first | (with_reducible assumption) | assumption)
                                    have hx18 := bt_at a0 x11_2
                                    replace p18 := eq_true p18
                                    replace q18 := eq_true q18
                                    have p20 : 0 ≤ (x11_2 : Int) := of_decide_eq_true (by first | (with_reducible assumption) | assumption)
                                    have q20 : x11_2 < (a0.size : Int) := of_decide_eq_true (by first | (with_reducible assumption) | assumption)
                                    have hx20 := bt_at a0 x11_2
                                    replace p20 := eq_true p20
                                    replace q20 := eq_true q20
                                    have p22 : 0 ≤ (x11_2 : Int) := of_decide_eq_true (by first | (with_reducible assumption) | assumption)
                                    have q22 : x11_2 < (a0.size : Int) := of_decide_eq_true (by first | (with_reducible assumption) | assumption)
                                    have hx22 := bt_at a0 x11_2
                                    replace p22 := eq_true p22
                                    replace q22 := eq_true q22
                                    have p24 : 0 ≤ (x11_2 : Int) := of_decide_eq_true (by first | (with_reducible assumption) | assumption)
                                    have q24 : x11_2 < (a0.size : Int) := of_decide_eq_true (by first | (with_reducible assumption) | assumption)
                                    have hx24 := bt_at a0 x11_2
                                    replace p24 := eq_true p24
                                    replace q24 := eq_true q24
                                    have p49 : 0 ≤ (x11_2 : Int) := of_decide_eq_true (by first | (with_reducible assumption) | assumption)
                                    have q49 : x11_2 < (a0.size : Int) := of_decide_eq_true (by first | (with_reducible assumption) | assumption)
                                    have hx49 := bt_at a0 x11_2
                                    replace p49 := eq_true p49
                                    replace q49 := eq_true q49
                                    have p55 : 0 ≤ ((ji52) : Int) := of_decide_eq_true (by first | (with_reducible assumption) | assumption)
                                    have q55 : (ji52) < (a0.size : Int) := of_decide_eq_true (by first | (with_reducible assumption) | assumption)
                                    have hx55 := bt_at a0 (ji52)
                                    replace p55 := eq_true p55
                                    replace q55 := eq_true q55
                                    go_wp2
                                    go_ret
                                    exact ⟨by first | rfl | (simp [errW_none, errW_some] <;> rfl) | (simp only [← hji52]; first | rfl | (simp [errW_none, errW_some] <;> rfl)) | (simp [*, errW_none, errW_some] <;> rfl), by repeat (first | (with_reducible first | exact HB.out | apply below_alloc | apply pw_below_drewN | apply below_drew1) | exact HB.out)⟩
                                  · rw [if_neg c56] at H
                                    have c56b0 : ((bt a0 (ji52)) == 10) = false := beq_eq_false_iff_ne.mpr c56
                                    have c56b1 : ((bt a0 (ji52)) != 10) = true := bne_iff_ne.mpr c56
                                    by_cases c58 : (bt a0 (ji52)) = 13
                                    · rw [if_pos c58] at H
                                      have c58b0 : ((bt a0 (ji52)) == 13) = true := beq_iff_eq.mpr c58
                                      have c58b1 : ((bt a0 (ji52)) != 13) = false := bne_eq_false_iff_eq.mpr c58
                                      clear c58
                                      obtain rfl := Option.some.inj H
                                      have p18 : 0 ≤ (x11_2 : Int) := of_decide_eq_true (by first | (with_reducible assumption) | assumption)
                                      have q18 : x11_2 < (a0.size : Int) := of_decide_eq_true (by first | (with_reducible assumption) | assumption)
                                      have hx18 := bt_at a0 x11_2
                                      replace p18 := eq_true p18
                                      replace q18 := eq_true q18
                                      have p20 : 0 ≤ (x11_2 : Int) := of_decide_eq_true (by first | (with_reducible assumption) | assumption)
                                      have q20 : x11_2 < (a0.size : Int) := of_decide_eq_true (by first | (with_reducible assumption) | assumption)
                                      have hx20 := bt_at a0 x11_2
                                      replace p20 := eq_true p20
                                      replace q20 := eq_true q20
                                      have p22 : 0 ≤ (x11_2 : Int) := of_decide_eq_true (by first | (with_reducible assumption) | assumption)
                                      have q22 : x11_2 < (a0.size : Int) := of_decide_eq_true (by first | (with_reducible assumption) | assumption)
                                      have hx22 := bt_at a0 x11_2
                                      replace p22 := eq_true p22
                                      replace q22 := eq_true q22
                                      have p24 : 0 ≤ (x11_2 : Int) := of_decide_eq_true (by first | (with_reducible assumption) | assumption)
                                      have q24 : x11_2 < (a0.size : Int) := of_decide_eq_true (by first | (with_reducible assumption) | assumption)
                                      have hx24 := bt_at a0 x11_2
                                      replace p24 := eq_true p24
                                      replace q24 := eq_true q24
                                      have p49 : 0 ≤ (x11_2 : Int) := of_decide_eq_true (by first | (with_reducible assumption) | assumption)
                                      have q49 : x11_2 < (a0.size : Int) := of_decide_eq_true (by first | (with_reducible assumption) | assumption)
                                      have hx49 := bt_at a0 x11_2
                                      replace p49 := eq_true p49
                                      replace q49 := eq_true q49
                                      have p55 : 0 ≤ ((ji52) : Int) := of_decide_eq_true (by first | (with_reducible assumption) | assumption)
                                      have q55 : (ji52) < (a0.size : Int) := of_decide_eq_true (by first | (with_reducible assumption) | assumption)
                                      have hx55 := bt_at a0 (ji52)
                                      replace p55 := eq_true p55
                                      replace q55 := eq_true q55
                                      have p57 : 0 ≤ ((ji52) : Int) := of_decide_eq_true (by first | (with_reducible assumption) | assumption)
                                      have q57 : (ji52) < (a0.size : Int) := of_decide_eq_true (by first | (with_reducible assumption) | assumption)
                                      have hx57 := bt_at a0 (ji52)
                                      replace p57 := eq_true p57
                                      replace q57 := eq_true q57
                                      go_wp2
                                      go_ret
                                      exact ⟨by first | rfl | (simp [errW_none, errW_some] <;> rfl) | (simp only [← hji52]; first | rfl | (simp [errW_none, errW_some] <;> rfl)) | (simp [*, errW_none, errW_some] <;> rfl), by repeat (first | (with_reducible first | exact HB.out | apply below_alloc | apply pw_below_drewN | apply below_drew1) | exact HB.out)⟩
                                    · rw [if_neg c58] at H
                                      have c58b0 : ((bt a0 (ji52)) == 13) = false := beq_eq_false_iff_ne.mpr c58
                                      have c58b1 : ((bt a0 (ji52)) != 13) = true := bne_iff_ne.mpr c58
                                      by_cases c59 : x10_2 = true
                                      · subst c59
                                        have H1 : (if (bt a0 x11_2) ≥ 32 then (if (bt a0 x11_2) < 127 then (missivelaw07_CodecStays.l0 k2 a0 t190 t193 t194 t195 t196 true ji52) else (missivelaw07_CodecStays.l0 k2 a0 t190 t193 t194 t195 t196 true ji52)) else (missivelaw07_CodecStays.l0 k2 a0 t190 t193 t194 t195 t196 true ji52)) = some r := by rw [if_pos rfl] at H; exact H
                                        clear H
                                        have H := H1
                                        clear H1
                                        by_cases c61 : (bt a0 x11_2) ≥ 32
                                        · rw [if_pos c61] at H
                                          have c61b0 : decide (32 ≤ (bt a0 x11_2)) = true := decide_eq_true c61
                                          clear c61
                                          by_cases c63 : (bt a0 x11_2) < 127
                                          · rw [if_pos c63] at H
                                            have c63b0 : decide ((bt a0 x11_2) < 127) = true := decide_eq_true c63
                                            clear c63
                                            have H' := Aside0.mk H
                                            clear H
                                            have p18 : 0 ≤ (x11_2 : Int) := of_decide_eq_true (by first | (with_reducible assumption) | assumption)
                                            have q18 : x11_2 < (a0.size : Int) := of_decide_eq_true (by first | (with_reducible assumption) | assumption)
                                            have hx18 := bt_at a0 x11_2
                                            replace p18 := eq_true p18
                                            replace q18 := eq_true q18
                                            have p20 : 0 ≤ (x11_2 : Int) := of_decide_eq_true (by first | (with_reducible assumption) | assumption)
                                            have q20 : x11_2 < (a0.size : Int) := of_decide_eq_true (by first | (with_reducible assumption) | assumption)
                                            have hx20 := bt_at a0 x11_2
                                            replace p20 := eq_true p20
                                            replace q20 := eq_true q20
                                            have p22 : 0 ≤ (x11_2 : Int) := of_decide_eq_true (by first | (with_reducible assumption) | assumption)
                                            have q22 : x11_2 < (a0.size : Int) := of_decide_eq_true (by first | (with_reducible assumption) | assumption)
                                            have hx22 := bt_at a0 x11_2
                                            replace p22 := eq_true p22
                                            replace q22 := eq_true q22
                                            have p24 : 0 ≤ (x11_2 : Int) := of_decide_eq_true (by first | (with_reducible assumption) | assumption)
                                            have q24 : x11_2 < (a0.size : Int) := of_decide_eq_true (by first | (with_reducible assumption) | assumption)
                                            have hx24 := bt_at a0 x11_2
                                            replace p24 := eq_true p24
                                            replace q24 := eq_true q24
                                            have p49 : 0 ≤ (x11_2 : Int) := of_decide_eq_true (by first | (with_reducible assumption) | assumption)
                                            have q49 : x11_2 < (a0.size : Int) := of_decide_eq_true (by first | (with_reducible assumption) | assumption)
                                            have hx49 := bt_at a0 x11_2
                                            replace p49 := eq_true p49
                                            replace q49 := eq_true q49
                                            have p55 : 0 ≤ ((ji52) : Int) := of_decide_eq_true (by first | (with_reducible assumption) | assumption)
                                            have q55 : (ji52) < (a0.size : Int) := of_decide_eq_true (by first | (with_reducible assumption) | assumption)
                                            have hx55 := bt_at a0 (ji52)
                                            replace p55 := eq_true p55
                                            replace q55 := eq_true q55
                                            have p57 : 0 ≤ ((ji52) : Int) := of_decide_eq_true (by first | (with_reducible assumption) | assumption)
                                            have q57 : (ji52) < (a0.size : Int) := of_decide_eq_true (by first | (with_reducible assumption) | assumption)
                                            have hx57 := bt_at a0 (ji52)
                                            replace p57 := eq_true p57
                                            replace q57 := eq_true q57
                                            have p60 : 0 ≤ (x11_2 : Int) := of_decide_eq_true (by first | (with_reducible assumption) | assumption)
                                            have q60 : x11_2 < (a0.size : Int) := of_decide_eq_true (by first | (with_reducible assumption) | assumption)
                                            have hx60 := bt_at a0 x11_2
                                            replace p60 := eq_true p60
                                            replace q60 := eq_true q60
                                            have p62 : 0 ≤ (x11_2 : Int) := of_decide_eq_true (by first | (with_reducible assumption) | assumption)
                                            have q62 : x11_2 < (a0.size : Int) := of_decide_eq_true (by first | (with_reducible assumption) | assumption)
                                            have hx62 := bt_at a0 x11_2
                                            replace p62 := eq_true p62
                                            replace q62 := eq_true q62
                                            go_wp2
                                            go_roundg k2
                                            case measure => have := HJ7.out; have := HK2.out; omega
                                            case rel => exact ⟨(true), (ji52), (by first | rfl | (simp; done) | (simp [*]; done)), (by first | rfl | (simp; done) | (simp only [← hji52] <;> (first | rfl | simp)) | (simp [*]; done)), H', ⟨by have := HJ7.out; have := HK2.out; omega⟩, ⟨by repeat (first | (with_reducible first | exact HB.out | apply below_alloc | apply pw_below_drewN | apply below_drew1) | exact HB.out)⟩⟩
                                          · rw [if_neg c63] at H
                                            have c63b0 : decide ((bt a0 x11_2) < 127) = false := decide_eq_false c63
                                            clear c63
                                            have H' := Aside0.mk H
                                            clear H
                                            have p18 : 0 ≤ (x11_2 : Int) := of_decide_eq_true (by first | (with_reducible assumption) | assumption)
                                            have q18 : x11_2 < (a0.size : Int) := of_decide_eq_true (by first | (with_reducible assumption) | assumption)
                                            have hx18 := bt_at a0 x11_2
                                            replace p18 := eq_true p18
                                            replace q18 := eq_true q18
                                            have p20 : 0 ≤ (x11_2 : Int) := of_decide_eq_true (by first | (with_reducible assumption) | assumption)
                                            have q20 : x11_2 < (a0.size : Int) := of_decide_eq_true (by first | (with_reducible assumption) | assumption)
                                            have hx20 := bt_at a0 x11_2
                                            replace p20 := eq_true p20
                                            replace q20 := eq_true q20
                                            have p22 : 0 ≤ (x11_2 : Int) := of_decide_eq_true (by first | (with_reducible assumption) | assumption)
                                            have q22 : x11_2 < (a0.size : Int) := of_decide_eq_true (by first | (with_reducible assumption) | assumption)
                                            have hx22 := bt_at a0 x11_2
                                            replace p22 := eq_true p22
                                            replace q22 := eq_true q22
                                            have p24 : 0 ≤ (x11_2 : Int) := of_decide_eq_true (by first | (with_reducible assumption) | assumption)
                                            have q24 : x11_2 < (a0.size : Int) := of_decide_eq_true (by first | (with_reducible assumption) | assumption)
                                            have hx24 := bt_at a0 x11_2
                                            replace p24 := eq_true p24
                                            replace q24 := eq_true q24
                                            have p49 : 0 ≤ (x11_2 : Int) := of_decide_eq_true (by first | (with_reducible assumption) | assumption)
                                            have q49 : x11_2 < (a0.size : Int) := of_decide_eq_true (by first | (with_reducible assumption) | assumption)
                                            have hx49 := bt_at a0 x11_2
                                            replace p49 := eq_true p49
                                            replace q49 := eq_true q49
                                            have p55 : 0 ≤ ((ji52) : Int) := of_decide_eq_true (by first | (with_reducible assumption) | assumption)
                                            have q55 : (ji52) < (a0.size : Int) := of_decide_eq_true (by first | (with_reducible assumption) | assumption)
                                            have hx55 := bt_at a0 (ji52)
                                            replace p55 := eq_true p55
                                            replace q55 := eq_true q55
                                            have p57 : 0 ≤ ((ji52) : Int) := of_decide_eq_true (by first | (with_reducible assumption) | assumption)
                                            have q57 : (ji52) < (a0.size : Int) := of_decide_eq_true (by first | (with_reducible assumption) | assumption)
                                            have hx57 := bt_at a0 (ji52)
                                            replace p57 := eq_true p57
                                            replace q57 := eq_true q57
                                            have p60 : 0 ≤ (x11_2 : Int) := of_decide_eq_true (by first | (with_reducible assumption) | assumption)
                                            have q60 : x11_2 < (a0.size : Int) := of_decide_eq_true (by first | (with_reducible assumption) | assumption)
                                            have hx60 := bt_at a0 x11_2
                                            replace p60 := eq_true p60
                                            replace q60 := eq_true q60
                                            have p62 : 0 ≤ (x11_2 : Int) := of_decide_eq_true (by first | (with_reducible assumption) | assumption)
                                            have q62 : x11_2 < (a0.size : Int) := of_decide_eq_true (by first | (with_reducible assumption) | assumption)
                                            have hx62 := bt_at a0 x11_2
                                            replace p62 := eq_true p62
                                            replace q62 := eq_true q62
                                            have p64 : 0 ≤ (x11_2 : Int) := of_decide_eq_true (by first | (with_reducible assumption) | assumption)
                                            have q64 : x11_2 < (a0.size : Int) := of_decide_eq_true (by first | (with_reducible assumption) | assumption)
                                            have hx64 := bt_at a0 x11_2
                                            replace p64 := eq_true p64
                                            replace q64 := eq_true q64
                                            go_wp2
                                            go_roundg k2
                                            case measure => have := HJ7.out; have := HK2.out; omega
                                            case rel => exact ⟨(true), (ji52), (by first | rfl | (simp; done) | (simp [*]; done)), (by first | rfl | (simp; done) | (simp only [← hji52] <;> (first | rfl | simp)) | (simp [*]; done)), H', ⟨by have := HJ7.out; have := HK2.out; omega⟩, ⟨by repeat (first | (with_reducible first | exact HB.out | apply below_alloc | apply pw_below_drewN | apply below_drew1) | exact HB.out)⟩⟩
                                        · rw [if_neg c61] at H
                                          have c61b0 : decide (32 ≤ (bt a0 x11_2)) = false := decide_eq_false c61
                                          clear c61
                                          have H' := Aside0.mk H
                                          clear H
                                          have p18 : 0 ≤ (x11_2 : Int) := of_decide_eq_true (by first | (with_reducible assumption) | assumption)
                                          have q18 : x11_2 < (a0.size : Int) := of_decide_eq_true (by first | (with_reducible assumption) | assumption)
                                          have hx18 := bt_at a0 x11_2
                                          replace p18 := eq_true p18
                                          replace q18 := eq_true q18
                                          have p20 : 0 ≤ (x11_2 : Int) := of_decide_eq_true (by first | (with_reducible assumption) | assumption)
                                          have q20 : x11_2 < (a0.size : Int) := of_decide_eq_true (by first | (with_reducible assumption) | assumption)
                                          have hx20 := bt_at a0 x11_2
                                          replace p20 := eq_true p20
                                          replace q20 := eq_true q20
                                          have p22 : 0 ≤ (x11_2 : Int) := of_decide_eq_true (by first | (with_reducible assumption) | assumption)
                                          have q22 : x11_2 < (a0.size : Int) := of_decide_eq_true (by first | (with_reducible assumption) | assumption)
                                          have hx22 := bt_at a0 x11_2
                                          replace p22 := eq_true p22
                                          replace q22 := eq_true q22
                                          have p24 : 0 ≤ (x11_2 : Int) := of_decide_eq_true (by first | (with_reducible assumption) | assumption)
                                          have q24 : x11_2 < (a0.size : Int) := of_decide_eq_true (by first | (with_reducible assumption) | assumption)
                                          have hx24 := bt_at a0 x11_2
                                          replace p24 := eq_true p24
                                          replace q24 := eq_true q24
                                          have p49 : 0 ≤ (x11_2 : Int) := of_decide_eq_true (by first | (with_reducible assumption) | assumption)
                                          have q49 : x11_2 < (a0.size : Int) := of_decide_eq_true (by first | (with_reducible assumption) | assumption)
                                          have hx49 := bt_at a0 x11_2
                                          replace p49 := eq_true p49
                                          replace q49 := eq_true q49
                                          have p55 : 0 ≤ ((ji52) : Int) := of_decide_eq_true (by first | (with_reducible assumption) | assumption)
                                          have q55 : (ji52) < (a0.size : Int) := of_decide_eq_true (by first | (with_reducible assumption) | assumption)
                                          have hx55 := bt_at a0 (ji52)
                                          replace p55 := eq_true p55
                                          replace q55 := eq_true q55
                                          have p57 : 0 ≤ ((ji52) : Int) := of_decide_eq_true (by first | (with_reducible assumption) | assumption)
                                          have q57 : (ji52) < (a0.size : Int) := of_decide_eq_true (by first | (with_reducible assumption) | assumption)
                                          have hx57 := bt_at a0 (ji52)
                                          replace p57 := eq_true p57
                                          replace q57 := eq_true q57
                                          have p60 : 0 ≤ (x11_2 : Int) := of_decide_eq_true (by first | (with_reducible assumption) | assumption)
                                          have q60 : x11_2 < (a0.size : Int) := of_decide_eq_true (by first | (with_reducible assumption) | assumption)
                                          have hx60 := bt_at a0 x11_2
                                          replace p60 := eq_true p60
                                          replace q60 := eq_true q60
                                          have p65 : 0 ≤ (x11_2 : Int) := of_decide_eq_true (by first | (with_reducible assumption) | assumption)
                                          have q65 : x11_2 < (a0.size : Int) := of_decide_eq_true (by first | (with_reducible assumption) | assumption)
                                          have hx65 := bt_at a0 x11_2
                                          replace p65 := eq_true p65
                                          replace q65 := eq_true q65
                                          go_wp2
                                          go_roundg k2
                                          case measure => have := HJ7.out; have := HK2.out; omega
                                          case rel => exact ⟨(true), (ji52), (by first | rfl | (simp; done) | (simp [*]; done)), (by first | rfl | (simp; done) | (simp only [← hji52] <;> (first | rfl | simp)) | (simp [*]; done)), H', ⟨by have := HJ7.out; have := HK2.out; omega⟩, ⟨by repeat (first | (with_reducible first | exact HB.out | apply below_alloc | apply pw_below_drewN | apply below_drew1) | exact HB.out)⟩⟩
                                      · replace c59 := Bool.eq_false_iff.mpr c59
                                        subst c59
                                        have H1 : (missivelaw07_CodecStays.l0 k2 a0 t190 t193 t194 t195 t196 false ji52) = some r := by rw [if_neg (show ¬ (false = true) by decide)] at H; exact H
                                        clear H
                                        have H := H1
                                        clear H1
                                        have H' := Aside0.mk H
                                        clear H
                                        have p18 : 0 ≤ (x11_2 : Int) := of_decide_eq_true (by first | (with_reducible assumption) | assumption)
                                        have q18 : x11_2 < (a0.size : Int) := of_decide_eq_true (by first | (with_reducible assumption) | assumption)
                                        have hx18 := bt_at a0 x11_2
                                        replace p18 := eq_true p18
                                        replace q18 := eq_true q18
                                        have p20 : 0 ≤ (x11_2 : Int) := of_decide_eq_true (by first | (with_reducible assumption) | assumption)
                                        have q20 : x11_2 < (a0.size : Int) := of_decide_eq_true (by first | (with_reducible assumption) | assumption)
                                        have hx20 := bt_at a0 x11_2
                                        replace p20 := eq_true p20
                                        replace q20 := eq_true q20
                                        have p22 : 0 ≤ (x11_2 : Int) := of_decide_eq_true (by first | (with_reducible assumption) | assumption)
                                        have q22 : x11_2 < (a0.size : Int) := of_decide_eq_true (by first | (with_reducible assumption) | assumption)
                                        have hx22 := bt_at a0 x11_2
                                        replace p22 := eq_true p22
                                        replace q22 := eq_true q22
                                        have p24 : 0 ≤ (x11_2 : Int) := of_decide_eq_true (by first | (with_reducible assumption) | assumption)
                                        have q24 : x11_2 < (a0.size : Int) := of_decide_eq_true (by first | (with_reducible assumption) | assumption)
                                        have hx24 := bt_at a0 x11_2
                                        replace p24 := eq_true p24
                                        replace q24 := eq_true q24
                                        have p49 : 0 ≤ (x11_2 : Int) := of_decide_eq_true (by first | (with_reducible assumption) | assumption)
                                        have q49 : x11_2 < (a0.size : Int) := of_decide_eq_true (by first | (with_reducible assumption) | assumption)
                                        have hx49 := bt_at a0 x11_2
                                        replace p49 := eq_true p49
                                        replace q49 := eq_true q49
                                        have p55 : 0 ≤ ((ji52) : Int) := of_decide_eq_true (by first | (with_reducible assumption) | assumption)
                                        have q55 : (ji52) < (a0.size : Int) := of_decide_eq_true (by first | (with_reducible assumption) | assumption)
                                        have hx55 := bt_at a0 (ji52)
                                        replace p55 := eq_true p55
                                        replace q55 := eq_true q55
                                        have p57 : 0 ≤ ((ji52) : Int) := of_decide_eq_true (by first | (with_reducible assumption) | assumption)
                                        have q57 : (ji52) < (a0.size : Int) := of_decide_eq_true (by first | (with_reducible assumption) | assumption)
                                        have hx57 := bt_at a0 (ji52)
                                        replace p57 := eq_true p57
                                        replace q57 := eq_true q57
                                        go_wp2
                                        go_roundg k2
                                        case measure => have := HJ7.out; have := HK2.out; omega
                                        case rel => exact ⟨(false), (ji52), (by first | rfl | (simp; done) | (simp [*]; done)), (by first | rfl | (simp; done) | (simp only [← hji52] <;> (first | rfl | simp)) | (simp [*]; done)), H', ⟨by have := HJ7.out; have := HK2.out; omega⟩, ⟨by repeat (first | (with_reducible first | exact HB.out | apply below_alloc | apply pw_below_drewN | apply below_drew1) | exact HB.out)⟩⟩
                                · rw [if_neg c54] at H
                                  exact absurd H (by simp)
                              · rw [if_neg c53] at H
                                exact absurd H (by simp)
                          · rw [if_neg c50] at H
                            have c50b0 : ((bt a0 x11_2) == 9) = false := beq_eq_false_iff_ne.mpr c50
                            have c50b1 : ((bt a0 x11_2) != 9) = true := bne_iff_ne.mpr c50
                            by_cases c66 : x10_2 = true
                            · subst c66
                              have H1 : (if (bt a0 x11_2) ≥ 32 then (if (bt a0 x11_2) < 127 then (missivelaw07_CodecStays.l0 k2 a0 t190 t193 t194 t195 t196 true (wrap64 (x11_2 + 1))) else (if (bt a0 x11_2) = 10 then (missivelaw07_CodecStays.l0 k2 a0 t190 t193 t194 t195 t196 true (wrap64 (x11_2 + 1))) else (missivelaw07_CodecStays.l0 k2 a0 t190 t193 t194 t195 t196 ((bt a0 x11_2) == 13) (wrap64 (x11_2 + 1))))) else (if (bt a0 x11_2) = 10 then (missivelaw07_CodecStays.l0 k2 a0 t190 t193 t194 t195 t196 true (wrap64 (x11_2 + 1))) else (missivelaw07_CodecStays.l0 k2 a0 t190 t193 t194 t195 t196 ((bt a0 x11_2) == 13) (wrap64 (x11_2 + 1))))) = some r := by rw [if_pos rfl] at H; exact H
                              clear H
                              have H := H1
                              clear H1
                              by_cases c68 : (bt a0 x11_2) ≥ 32
                              · rw [if_pos c68] at H
                                have c68b0 : decide (32 ≤ (bt a0 x11_2)) = true := decide_eq_true c68
                                clear c68
                                by_cases c70 : (bt a0 x11_2) < 127
                                · rw [if_pos c70] at H
                                  have c70b0 : decide ((bt a0 x11_2) < 127) = true := decide_eq_true c70
                                  clear c70
                                  have H' := Aside0.mk H
                                  clear H
                                  have p18 : 0 ≤ (x11_2 : Int) := of_decide_eq_true (by first | (with_reducible assumption) | assumption)
                                  have q18 : x11_2 < (a0.size : Int) := of_decide_eq_true (by first | (with_reducible assumption) | assumption)
                                  have hx18 := bt_at a0 x11_2
                                  replace p18 := eq_true p18
                                  replace q18 := eq_true q18
                                  have p20 : 0 ≤ (x11_2 : Int) := of_decide_eq_true (by first | (with_reducible assumption) | assumption)
                                  have q20 : x11_2 < (a0.size : Int) := of_decide_eq_true (by first | (with_reducible assumption) | assumption)
                                  have hx20 := bt_at a0 x11_2
                                  replace p20 := eq_true p20
                                  replace q20 := eq_true q20
                                  have p22 : 0 ≤ (x11_2 : Int) := of_decide_eq_true (by first | (with_reducible assumption) | assumption)
                                  have q22 : x11_2 < (a0.size : Int) := of_decide_eq_true (by first | (with_reducible assumption) | assumption)
                                  have hx22 := bt_at a0 x11_2
                                  replace p22 := eq_true p22
                                  replace q22 := eq_true q22
                                  have p24 : 0 ≤ (x11_2 : Int) := of_decide_eq_true (by first | (with_reducible assumption) | assumption)
                                  have q24 : x11_2 < (a0.size : Int) := of_decide_eq_true (by first | (with_reducible assumption) | assumption)
                                  have hx24 := bt_at a0 x11_2
                                  replace p24 := eq_true p24
                                  replace q24 := eq_true q24
                                  have p49 : 0 ≤ (x11_2 : Int) := of_decide_eq_true (by first | (with_reducible assumption) | assumption)
                                  have q49 : x11_2 < (a0.size : Int) := of_decide_eq_true (by first | (with_reducible assumption) | assumption)
                                  have hx49 := bt_at a0 x11_2
                                  replace p49 := eq_true p49
                                  replace q49 := eq_true q49
                                  have p67 : 0 ≤ (x11_2 : Int) := of_decide_eq_true (by first | (with_reducible assumption) | assumption)
                                  have q67 : x11_2 < (a0.size : Int) := of_decide_eq_true (by first | (with_reducible assumption) | assumption)
                                  have hx67 := bt_at a0 x11_2
                                  replace p67 := eq_true p67
                                  replace q67 := eq_true q67
                                  have p69 : 0 ≤ (x11_2 : Int) := of_decide_eq_true (by first | (with_reducible assumption) | assumption)
                                  have q69 : x11_2 < (a0.size : Int) := of_decide_eq_true (by first | (with_reducible assumption) | assumption)
                                  have hx69 := bt_at a0 x11_2
                                  replace p69 := eq_true p69
                                  replace q69 := eq_true q69
                                  go_wp2
                                  go_roundg k2
                                  case measure => have := HJ7.out; have := HK2.out; omega
                                  case rel => exact ⟨(true), (wrap64 (x11_2 + 1)), (by first | rfl | (simp; done) | (simp [*]; done)), (by first | rfl | (simp; done) | (simp [*]; done)), H', ⟨by have := HJ7.out; have := HK2.out; omega⟩, ⟨by repeat (first | (with_reducible first | exact HB.out | apply below_alloc | apply pw_below_drewN | apply below_drew1) | exact HB.out)⟩⟩
                                · rw [if_neg c70] at H
                                  have c70b0 : decide ((bt a0 x11_2) < 127) = false := decide_eq_false c70
                                  clear c70
                                  by_cases c73 : (bt a0 x11_2) = 10
                                  · rw [if_pos c73] at H
                                    have c73b0 : ((bt a0 x11_2) == 10) = true := beq_iff_eq.mpr c73
                                    have c73b1 : ((bt a0 x11_2) != 10) = false := bne_eq_false_iff_eq.mpr c73
                                    clear c73
                                    have H' := Aside0.mk H
                                    clear H
                                    have p18 : 0 ≤ (x11_2 : Int) := of_decide_eq_true (by first | (with_reducible assumption) | assumption)
                                    have q18 : x11_2 < (a0.size : Int) := of_decide_eq_true (by first | (with_reducible assumption) | assumption)
                                    have hx18 := bt_at a0 x11_2
                                    replace p18 := eq_true p18
                                    replace q18 := eq_true q18
                                    have p20 : 0 ≤ (x11_2 : Int) := of_decide_eq_true (by first | (with_reducible assumption) | assumption)
                                    have q20 : x11_2 < (a0.size : Int) := of_decide_eq_true (by first | (with_reducible assumption) | assumption)
                                    have hx20 := bt_at a0 x11_2
                                    replace p20 := eq_true p20
                                    replace q20 := eq_true q20
                                    have p22 : 0 ≤ (x11_2 : Int) := of_decide_eq_true (by first | (with_reducible assumption) | assumption)
                                    have q22 : x11_2 < (a0.size : Int) := of_decide_eq_true (by first | (with_reducible assumption) | assumption)
                                    have hx22 := bt_at a0 x11_2
                                    replace p22 := eq_true p22
                                    replace q22 := eq_true q22
                                    have p24 : 0 ≤ (x11_2 : Int) := of_decide_eq_true (by first | (with_reducible assumption) | assumption)
                                    have q24 : x11_2 < (a0.size : Int) := of_decide_eq_true (by first | (with_reducible assumption) | assumption)
                                    have hx24 := bt_at a0 x11_2
                                    replace p24 := eq_true p24
                                    replace q24 := eq_true q24
                                    have p49 : 0 ≤ (x11_2 : Int) := of_decide_eq_true (by first | (with_reducible assumption) | assumption)
                                    have q49 : x11_2 < (a0.size : Int) := of_decide_eq_true (by first | (with_reducible assumption) | assumption)
                                    have hx49 := bt_at a0 x11_2
                                    replace p49 := eq_true p49
                                    replace q49 := eq_true q49
                                    have p67 : 0 ≤ (x11_2 : Int) := of_decide_eq_true (by first | (with_reducible assumption) | assumption)
                                    have q67 : x11_2 < (a0.size : Int) := of_decide_eq_true (by first | (with_reducible assumption) | assumption)
                                    have hx67 := bt_at a0 x11_2
                                    replace p67 := eq_true p67
                                    replace q67 := eq_true q67
                                    have p69 : 0 ≤ (x11_2 : Int) := of_decide_eq_true (by first | (with_reducible assumption) | assumption)
                                    have q69 : x11_2 < (a0.size : Int) := of_decide_eq_true (by first | (with_reducible assumption) | assumption)
                                    have hx69 := bt_at a0 x11_2
                                    replace p69 := eq_true p69
                                    replace q69 := eq_true q69
                                    have p71 : 0 ≤ (x11_2 : Int) := of_decide_eq_true (by first | (with_reducible assumption) | assumption)
                                    have q71 : x11_2 < (a0.size : Int) := of_decide_eq_true (by first | (with_reducible assumption) | assumption)
                                    have hx71 := bt_at a0 x11_2
                                    replace p71 := eq_true p71
                                    replace q71 := eq_true q71
                                    have p72 : 0 ≤ (x11_2 : Int) := of_decide_eq_true (by first | (with_reducible assumption) | assumption)
                                    have q72 : x11_2 < (a0.size : Int) := of_decide_eq_true (by first | (with_reducible assumption) | assumption)
                                    have hx72 := bt_at a0 x11_2
                                    replace p72 := eq_true p72
                                    replace q72 := eq_true q72
                                    go_wp2
                                    go_roundg k2
                                    case measure => have := HJ7.out; have := HK2.out; omega
                                    case rel => exact ⟨(true), (wrap64 (x11_2 + 1)), (by first | rfl | (simp; done) | (simp [*]; done)), (by first | rfl | (simp; done) | (simp [*]; done)), H', ⟨by have := HJ7.out; have := HK2.out; omega⟩, ⟨by repeat (first | (with_reducible first | exact HB.out | apply below_alloc | apply pw_below_drewN | apply below_drew1) | exact HB.out)⟩⟩
                                  · rw [if_neg c73] at H
                                    have c73b0 : ((bt a0 x11_2) == 10) = false := beq_eq_false_iff_ne.mpr c73
                                    have c73b1 : ((bt a0 x11_2) != 10) = true := bne_iff_ne.mpr c73
                                    have H' := Aside0.mk H
                                    clear H
                                    have p18 : 0 ≤ (x11_2 : Int) := of_decide_eq_true (by first | (with_reducible assumption) | assumption)
                                    have q18 : x11_2 < (a0.size : Int) := of_decide_eq_true (by first | (with_reducible assumption) | assumption)
                                    have hx18 := bt_at a0 x11_2
                                    replace p18 := eq_true p18
                                    replace q18 := eq_true q18
                                    have p20 : 0 ≤ (x11_2 : Int) := of_decide_eq_true (by first | (with_reducible assumption) | assumption)
                                    have q20 : x11_2 < (a0.size : Int) := of_decide_eq_true (by first | (with_reducible assumption) | assumption)
                                    have hx20 := bt_at a0 x11_2
                                    replace p20 := eq_true p20
                                    replace q20 := eq_true q20
                                    have p22 : 0 ≤ (x11_2 : Int) := of_decide_eq_true (by first | (with_reducible assumption) | assumption)
                                    have q22 : x11_2 < (a0.size : Int) := of_decide_eq_true (by first | (with_reducible assumption) | assumption)
                                    have hx22 := bt_at a0 x11_2
                                    replace p22 := eq_true p22
                                    replace q22 := eq_true q22
                                    have p24 : 0 ≤ (x11_2 : Int) := of_decide_eq_true (by first | (with_reducible assumption) | assumption)
                                    have q24 : x11_2 < (a0.size : Int) := of_decide_eq_true (by first | (with_reducible assumption) | assumption)
                                    have hx24 := bt_at a0 x11_2
                                    replace p24 := eq_true p24
                                    replace q24 := eq_true q24
                                    have p49 : 0 ≤ (x11_2 : Int) := of_decide_eq_true (by first | (with_reducible assumption) | assumption)
                                    have q49 : x11_2 < (a0.size : Int) := of_decide_eq_true (by first | (with_reducible assumption) | assumption)
                                    have hx49 := bt_at a0 x11_2
                                    replace p49 := eq_true p49
                                    replace q49 := eq_true q49
                                    have p67 : 0 ≤ (x11_2 : Int) := of_decide_eq_true (by first | (with_reducible assumption) | assumption)
                                    have q67 : x11_2 < (a0.size : Int) := of_decide_eq_true (by first | (with_reducible assumption) | assumption)
                                    have hx67 := bt_at a0 x11_2
                                    replace p67 := eq_true p67
                                    replace q67 := eq_true q67
                                    have p69 : 0 ≤ (x11_2 : Int) := of_decide_eq_true (by first | (with_reducible assumption) | assumption)
                                    have q69 : x11_2 < (a0.size : Int) := of_decide_eq_true (by first | (with_reducible assumption) | assumption)
                                    have hx69 := bt_at a0 x11_2
                                    replace p69 := eq_true p69
                                    replace q69 := eq_true q69
                                    have p71 : 0 ≤ (x11_2 : Int) := of_decide_eq_true (by first | (with_reducible assumption) | assumption)
                                    have q71 : x11_2 < (a0.size : Int) := of_decide_eq_true (by first | (with_reducible assumption) | assumption)
                                    have hx71 := bt_at a0 x11_2
                                    replace p71 := eq_true p71
                                    replace q71 := eq_true q71
                                    have p72 : 0 ≤ (x11_2 : Int) := of_decide_eq_true (by first | (with_reducible assumption) | assumption)
                                    have q72 : x11_2 < (a0.size : Int) := of_decide_eq_true (by first | (with_reducible assumption) | assumption)
                                    have hx72 := bt_at a0 x11_2
                                    replace p72 := eq_true p72
                                    replace q72 := eq_true q72
                                    have p74 : 0 ≤ (x11_2 : Int) := of_decide_eq_true (by first | (with_reducible assumption) | assumption)
                                    have q74 : x11_2 < (a0.size : Int) := of_decide_eq_true (by first | (with_reducible assumption) | assumption)
                                    have hx74 := bt_at a0 x11_2
                                    replace p74 := eq_true p74
                                    replace q74 := eq_true q74
                                    go_wp2
                                    go_roundg k2
                                    case measure => have := HJ7.out; have := HK2.out; omega
                                    case rel => exact ⟨(((bt a0 x11_2) == 13)), (wrap64 (x11_2 + 1)), (by first | rfl | (simp; done) | (simp [*]; done)), (by first | rfl | (simp; done) | (simp [*]; done)), H', ⟨by have := HJ7.out; have := HK2.out; omega⟩, ⟨by repeat (first | (with_reducible first | exact HB.out | apply below_alloc | apply pw_below_drewN | apply below_drew1) | exact HB.out)⟩⟩
                              · rw [if_neg c68] at H
                                have c68b0 : decide (32 ≤ (bt a0 x11_2)) = false := decide_eq_false c68
                                clear c68
                                by_cases c77 : (bt a0 x11_2) = 10
                                · rw [if_pos c77] at H
                                  have c77b0 : ((bt a0 x11_2) == 10) = true := beq_iff_eq.mpr c77
                                  have c77b1 : ((bt a0 x11_2) != 10) = false := bne_eq_false_iff_eq.mpr c77
                                  clear c77
                                  have H' := Aside0.mk H
                                  clear H
                                  have p18 : 0 ≤ (x11_2 : Int) := of_decide_eq_true (by first | (with_reducible assumption) | assumption)
                                  have q18 : x11_2 < (a0.size : Int) := of_decide_eq_true (by first | (with_reducible assumption) | assumption)
                                  have hx18 := bt_at a0 x11_2
                                  replace p18 := eq_true p18
                                  replace q18 := eq_true q18
                                  have p20 : 0 ≤ (x11_2 : Int) := of_decide_eq_true (by first | (with_reducible assumption) | assumption)
                                  have q20 : x11_2 < (a0.size : Int) := of_decide_eq_true (by first | (with_reducible assumption) | assumption)
                                  have hx20 := bt_at a0 x11_2
                                  replace p20 := eq_true p20
                                  replace q20 := eq_true q20
                                  have p22 : 0 ≤ (x11_2 : Int) := of_decide_eq_true (by first | (with_reducible assumption) | assumption)
                                  have q22 : x11_2 < (a0.size : Int) := of_decide_eq_true (by first | (with_reducible assumption) | assumption)
                                  have hx22 := bt_at a0 x11_2
                                  replace p22 := eq_true p22
                                  replace q22 := eq_true q22
                                  have p24 : 0 ≤ (x11_2 : Int) := of_decide_eq_true (by first | (with_reducible assumption) | assumption)
                                  have q24 : x11_2 < (a0.size : Int) := of_decide_eq_true (by first | (with_reducible assumption) | assumption)
                                  have hx24 := bt_at a0 x11_2
                                  replace p24 := eq_true p24
                                  replace q24 := eq_true q24
                                  have p49 : 0 ≤ (x11_2 : Int) := of_decide_eq_true (by first | (with_reducible assumption) | assumption)
                                  have q49 : x11_2 < (a0.size : Int) := of_decide_eq_true (by first | (with_reducible assumption) | assumption)
                                  have hx49 := bt_at a0 x11_2
                                  replace p49 := eq_true p49
                                  replace q49 := eq_true q49
                                  have p67 : 0 ≤ (x11_2 : Int) := of_decide_eq_true (by first | (with_reducible assumption) | assumption)
                                  have q67 : x11_2 < (a0.size : Int) := of_decide_eq_true (by first | (with_reducible assumption) | assumption)
                                  have hx67 := bt_at a0 x11_2
                                  replace p67 := eq_true p67
                                  replace q67 := eq_true q67
                                  have p75 : 0 ≤ (x11_2 : Int) := of_decide_eq_true (by first | (with_reducible assumption) | assumption)
                                  have q75 : x11_2 < (a0.size : Int) := of_decide_eq_true (by first | (with_reducible assumption) | assumption)
                                  have hx75 := bt_at a0 x11_2
                                  replace p75 := eq_true p75
                                  replace q75 := eq_true q75
                                  have p76 : 0 ≤ (x11_2 : Int) := of_decide_eq_true (by first | (with_reducible assumption) | assumption)
                                  have q76 : x11_2 < (a0.size : Int) := of_decide_eq_true (by first | (with_reducible assumption) | assumption)
                                  have hx76 := bt_at a0 x11_2
                                  replace p76 := eq_true p76
                                  replace q76 := eq_true q76
                                  go_wp2
                                  go_roundg k2
                                  case measure => have := HJ7.out; have := HK2.out; omega
                                  case rel => exact ⟨(true), (wrap64 (x11_2 + 1)), (by first | rfl | (simp; done) | (simp [*]; done)), (by first | rfl | (simp; done) | (simp [*]; done)), H', ⟨by have := HJ7.out; have := HK2.out; omega⟩, ⟨by repeat (first | (with_reducible first | exact HB.out | apply below_alloc | apply pw_below_drewN | apply below_drew1) | exact HB.out)⟩⟩
                                · rw [if_neg c77] at H
                                  have c77b0 : ((bt a0 x11_2) == 10) = false := beq_eq_false_iff_ne.mpr c77
                                  have c77b1 : ((bt a0 x11_2) != 10) = true := bne_iff_ne.mpr c77
                                  have H' := Aside0.mk H
                                  clear H
                                  have p18 : 0 ≤ (x11_2 : Int) := of_decide_eq_true (by first | (with_reducible assumption) | assumption)
                                  have q18 : x11_2 < (a0.size : Int) := of_decide_eq_true (by first | (with_reducible assumption) | assumption)
                                  have hx18 := bt_at a0 x11_2
                                  replace p18 := eq_true p18
                                  replace q18 := eq_true q18
                                  have p20 : 0 ≤ (x11_2 : Int) := of_decide_eq_true (by first | (with_reducible assumption) | assumption)
                                  have q20 : x11_2 < (a0.size : Int) := of_decide_eq_true (by first | (with_reducible assumption) | assumption)
                                  have hx20 := bt_at a0 x11_2
                                  replace p20 := eq_true p20
                                  replace q20 := eq_true q20
                                  have p22 : 0 ≤ (x11_2 : Int) := of_decide_eq_true (by first | (with_reducible assumption) | assumption)
                                  have q22 : x11_2 < (a0.size : Int) := of_decide_eq_true (by first | (with_reducible assumption) | assumption)
                                  have hx22 := bt_at a0 x11_2
                                  replace p22 := eq_true p22
                                  replace q22 := eq_true q22
                                  have p24 : 0 ≤ (x11_2 : Int) := of_decide_eq_true (by first | (with_reducible assumption) | assumption)
                                  have q24 : x11_2 < (a0.size : Int) := of_decide_eq_true (by first | (with_reducible assumption) | assumption)
                                  have hx24 := bt_at a0 x11_2
                                  replace p24 := eq_true p24
                                  replace q24 := eq_true q24
                                  have p49 : 0 ≤ (x11_2 : Int) := of_decide_eq_true (by first | (with_reducible assumption) | assumption)
                                  have q49 : x11_2 < (a0.size : Int) := of_decide_eq_true (by first | (with_reducible assumption) | assumption)
                                  have hx49 := bt_at a0 x11_2
                                  replace p49 := eq_true p49
                                  replace q49 := eq_true q49
                                  have p67 : 0 ≤ (x11_2 : Int) := of_decide_eq_true (by first | (with_reducible assumption) | assumption)
                                  have q67 : x11_2 < (a0.size : Int) := of_decide_eq_true (by first | (with_reducible assumption) | assumption)
                                  have hx67 := bt_at a0 x11_2
                                  replace p67 := eq_true p67
                                  replace q67 := eq_true q67
                                  have p75 : 0 ≤ (x11_2 : Int) := of_decide_eq_true (by first | (with_reducible assumption) | assumption)
                                  have q75 : x11_2 < (a0.size : Int) := of_decide_eq_true (by first | (with_reducible assumption) | assumption)
                                  have hx75 := bt_at a0 x11_2
                                  replace p75 := eq_true p75
                                  replace q75 := eq_true q75
                                  have p76 : 0 ≤ (x11_2 : Int) := of_decide_eq_true (by first | (with_reducible assumption) | assumption)
                                  have q76 : x11_2 < (a0.size : Int) := of_decide_eq_true (by first | (with_reducible assumption) | assumption)
                                  have hx76 := bt_at a0 x11_2
                                  replace p76 := eq_true p76
                                  replace q76 := eq_true q76
                                  have p78 : 0 ≤ (x11_2 : Int) := of_decide_eq_true (by first | (with_reducible assumption) | assumption)
                                  have q78 : x11_2 < (a0.size : Int) := of_decide_eq_true (by first | (with_reducible assumption) | assumption)
                                  have hx78 := bt_at a0 x11_2
                                  replace p78 := eq_true p78
                                  replace q78 := eq_true q78
                                  go_wp2
                                  go_roundg k2
                                  case measure => have := HJ7.out; have := HK2.out; omega
                                  case rel => exact ⟨(((bt a0 x11_2) == 13)), (wrap64 (x11_2 + 1)), (by first | rfl | (simp; done) | (simp [*]; done)), (by first | rfl | (simp; done) | (simp [*]; done)), H', ⟨by have := HJ7.out; have := HK2.out; omega⟩, ⟨by repeat (first | (with_reducible first | exact HB.out | apply below_alloc | apply pw_below_drewN | apply below_drew1) | exact HB.out)⟩⟩
                            · replace c66 := Bool.eq_false_iff.mpr c66
                              subst c66
                              have H1 : (missivelaw07_CodecStays.l0 k2 a0 t190 t193 t194 t195 t196 false (wrap64 (x11_2 + 1))) = some r := by rw [if_neg (show ¬ (false = true) by decide)] at H; exact H
                              clear H
                              have H := H1
                              clear H1
                              have H' := Aside0.mk H
                              clear H
                              have p18 : 0 ≤ (x11_2 : Int) := of_decide_eq_true (by first | (with_reducible assumption) | assumption)
                              have q18 : x11_2 < (a0.size : Int) := of_decide_eq_true (by first | (with_reducible assumption) | assumption)
                              have hx18 := bt_at a0 x11_2
                              replace p18 := eq_true p18
                              replace q18 := eq_true q18
                              have p20 : 0 ≤ (x11_2 : Int) := of_decide_eq_true (by first | (with_reducible assumption) | assumption)
                              have q20 : x11_2 < (a0.size : Int) := of_decide_eq_true (by first | (with_reducible assumption) | assumption)
                              have hx20 := bt_at a0 x11_2
                              replace p20 := eq_true p20
                              replace q20 := eq_true q20
                              have p22 : 0 ≤ (x11_2 : Int) := of_decide_eq_true (by first | (with_reducible assumption) | assumption)
                              have q22 : x11_2 < (a0.size : Int) := of_decide_eq_true (by first | (with_reducible assumption) | assumption)
                              have hx22 := bt_at a0 x11_2
                              replace p22 := eq_true p22
                              replace q22 := eq_true q22
                              have p24 : 0 ≤ (x11_2 : Int) := of_decide_eq_true (by first | (with_reducible assumption) | assumption)
                              have q24 : x11_2 < (a0.size : Int) := of_decide_eq_true (by first | (with_reducible assumption) | assumption)
                              have hx24 := bt_at a0 x11_2
                              replace p24 := eq_true p24
                              replace q24 := eq_true q24
                              have p49 : 0 ≤ (x11_2 : Int) := of_decide_eq_true (by first | (with_reducible assumption) | assumption)
                              have q49 : x11_2 < (a0.size : Int) := of_decide_eq_true (by first | (with_reducible assumption) | assumption)
                              have hx49 := bt_at a0 x11_2
                              replace p49 := eq_true p49
                              replace q49 := eq_true q49
                              go_wp2
                              go_roundg k2
                              case measure => have := HJ7.out; have := HK2.out; omega
                              case rel => exact ⟨(false), (wrap64 (x11_2 + 1)), (by first | rfl | (simp; done) | (simp [*]; done)), (by first | rfl | (simp; done) | (simp [*]; done)), H', ⟨by have := HJ7.out; have := HK2.out; omega⟩, ⟨by repeat (first | (with_reducible first | exact HB.out | apply below_alloc | apply pw_below_drewN | apply below_drew1) | exact HB.out)⟩⟩
                · rw [if_neg c17] at H
                  exact absurd H (by simp)
              · rw [if_neg c16] at H
                have c16b0 : decide (x11_2 < (a0.size : Int)) = false := decide_eq_false c16
                clear c16
                by_cases c79 : t190 = true
                · subst c79
                  have H1 : (if t193.toList = a0.toList then (if (t194 == x10_2) = true then (if t195.toList = a0.toList then (some t196) else (some false)) else (some false)) else (some false)) = some r := by rw [if_pos rfl] at H; exact H
                  clear H
                  have H := H1
                  clear H1
                  by_cases c80 : t193.toList = a0.toList
                  · rw [if_pos c80] at H
                    have c80b0 : (t193.toList == a0.toList) = true := beq_iff_eq.mpr c80
                    have c80b1 : (t193.toList != a0.toList) = false := bne_eq_false_iff_eq.mpr c80
                    clear c80
                    by_cases c81 : (t194 == x10_2) = true
                    · rw [if_pos c81] at H
                      have c81b0 : (t194 == x10_2) = true := c81
                      (try (have c81b1 : decide (t194 = x10_2) = true := by simpa using c81))
                      (try (have c81b2 : (t194 == x10_2) = true := by simpa using c81))
                      clear c81
                      by_cases c82 : t195.toList = a0.toList
                      · rw [if_pos c82] at H
                        have c82b0 : (t195.toList == a0.toList) = true := beq_iff_eq.mpr c82
                        have c82b1 : (t195.toList != a0.toList) = false := bne_eq_false_iff_eq.mpr c82
                        clear c82
                        obtain rfl := Option.some.inj H
                        go_wp2
                        go_ret
                        exact ⟨by first | rfl | (simp [errW_none, errW_some] <;> rfl) | (simp [*, errW_none, errW_some] <;> rfl), by repeat (first | (with_reducible first | exact HB.out | apply below_alloc | apply pw_below_drewN | apply below_drew1) | exact HB.out)⟩
                      · rw [if_neg c82] at H
                        have c82b0 : (t195.toList == a0.toList) = false := beq_eq_false_iff_ne.mpr c82
                        have c82b1 : (t195.toList != a0.toList) = true := bne_iff_ne.mpr c82
                        obtain rfl := Option.some.inj H
                        go_wp2
                        go_ret
                        exact ⟨by first | rfl | (simp [errW_none, errW_some] <;> rfl) | (simp [*, errW_none, errW_some] <;> rfl), by repeat (first | (with_reducible first | exact HB.out | apply below_alloc | apply pw_below_drewN | apply below_drew1) | exact HB.out)⟩
                    · rw [if_neg c81] at H
                      have c81b0 : (t194 == x10_2) = false := by simpa using c81
                      (try (have c81b1 : decide (t194 = x10_2) = false := by simpa using c81))
                      (try (have c81b2 : (t194 == x10_2) = false := by simpa using c81))
                      (try (have c81b3 : ¬ (t194 = x10_2) := by simpa using c81))
                      clear c81
                      obtain rfl := Option.some.inj H
                      go_wp2
                      go_ret
                      exact ⟨by first | rfl | (simp [errW_none, errW_some] <;> rfl) | (simp [*, errW_none, errW_some] <;> rfl), by repeat (first | (with_reducible first | exact HB.out | apply below_alloc | apply pw_below_drewN | apply below_drew1) | exact HB.out)⟩
                  · rw [if_neg c80] at H
                    have c80b0 : (t193.toList == a0.toList) = false := beq_eq_false_iff_ne.mpr c80
                    have c80b1 : (t193.toList != a0.toList) = true := bne_iff_ne.mpr c80
                    obtain rfl := Option.some.inj H
                    go_wp2
                    go_ret
                    exact ⟨by first | rfl | (simp [errW_none, errW_some] <;> rfl) | (simp [*, errW_none, errW_some] <;> rfl), by repeat (first | (with_reducible first | exact HB.out | apply below_alloc | apply pw_below_drewN | apply below_drew1) | exact HB.out)⟩
                · replace c79 := Bool.eq_false_iff.mpr c79
                  subst c79
                  have H1 : (some false) = some r := by rw [if_neg (show ¬ (false = true) by decide)] at H; exact H
                  clear H
                  have H := H1
                  clear H1
                  obtain rfl := Option.some.inj H
                  go_wp2
                  go_ret
                  exact ⟨by first | rfl | (simp [errW_none, errW_some] <;> rfl) | (simp [*, errW_none, errW_some] <;> rfl), by repeat (first | (with_reducible first | exact HB.out | apply below_alloc | apply pw_below_drewN | apply below_drew1) | exact HB.out)⟩

/-- THE ONE PURE STATEMENT of missivelaw07_CodecStays: yours. -/
def missivelaw07_CodecStays.Pure : Prop := ∀ (a0 : ByteArray), a0.size ≤ 140737488351232 → ∃ k, missivelaw07_CodecStays.f k a0 = some true
theorem missivelaw07_CodecStays.walk (P : missivelaw07_CodecStays.Pure) (a0 : ByteArray) (w : World) (w0 : a0.size ≤ 140737488351232) :
    Calls Try.prog 4 #[.string a0] w fun e w' => e = .returned (.bool true) ∧ Below w.heap.size w w' := by
  obtain ⟨k, h⟩ := P a0 w0
  refine (missivelaw07_CodecStays.calls k a0 true w h).mono ?_
  rintro e w' ⟨rfl, hd⟩
  exact ⟨rfl, hd⟩

end Go.Proofs.Ytfephmhphkmegaa.PA
