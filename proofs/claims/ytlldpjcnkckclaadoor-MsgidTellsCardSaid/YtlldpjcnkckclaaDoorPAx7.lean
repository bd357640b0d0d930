-- Printed by a program of this session (printx.py) that runs the kit's print.py with texts of this session in the place of some functions; Lean checks it.
import Derived.Test.YtlldpjcnkckclaaDoorPAx0
import Derived.Test.YtlldpjcnkckclaaDoorPAx1
import Derived.Test.YtlldpjcnkckclaaDoorPAx2
import Derived.Test.YtlldpjcnkckclaaDoorPAx3
import Derived.Test.YtlldpjcnkckclaaDoorPAx4
import Derived.Test.YtlldpjcnkckclaaDoorPAx5
import Derived.Test.YtlldpjcnkckclaaDoorPAx6
namespace Go.Proofs.YtlldpjcnkckclaaDoor.PA
open Go.RowKit Go.Proofs.YtlldpjcnkckclaaDoorW.PrintWords Go.Proofs.YtlldpjcnkckclaaDoorW.PrintLast Go.Proofs.YtlldpjcnkckclaaDoorW.PrintMore
attribute [local go_sem] max2_int min2_int max_two min_two max_three min_three max_four min_four   -- for this text's walks alone
set_option linter.unusedVariables false
set_option linter.unusedSimpArgs false

/-! ### missivelaw12_MsgidTells: function 3 -/
mutual
def missivelaw12_MsgidTells.j0 : Nat → ByteArray → List (S37) → Bool → Bool → Option (Bool)
  | 0, _, _, _, _ => none
  | k + 1, x0, x1, x5, x22 => if x22 = true then (some x5) else ((msgid_First.f k x0).bind fun bt241 => ((missiveref12_First.f k x0).bind fun bt243 => ((msgid_Own.f k x1).bind fun bt245 => ((missiveref12_Own.f k x1).bind fun bt247 => (if bt241.1.toList = bt243.1.toList then (if (bt241.2 != bt243.2) = true then (missivelaw12_MsgidTells.j1 k x0 x1 x5 true) else (if bt245.1.toList = bt247.1.toList then (if (bt245.2 != bt247.2) = true then (missivelaw12_MsgidTells.j1 k x0 x1 x5 true) else ((msgid_Valid.f k x0).bind fun t249 => ((missiveref12_Valid.f k x0).bind fun t250 => (if (t249 != t250) = true then (missivelaw12_MsgidTells.j1 k x0 x1 x5 true) else ((msgid_Make.f x0).bind fun t251 => ((missiveref12_Make.f k x0).bind fun t252 => (missivelaw12_MsgidTells.j1 k x0 x1 x5 (t251.toList != t252.toList)))))))) else (missivelaw12_MsgidTells.j1 k x0 x1 x5 true))) else (missivelaw12_MsgidTells.j1 k x0 x1 x5 true))))))
def missivelaw12_MsgidTells.j1 : Nat → ByteArray → List (S37) → Bool → Bool → Option (Bool)
  | 0, _, _, _, _ => none
  | k + 1, x0, x1, x5, x75 => if x75 = true then (some false) else (if x5 = true then ((msgid_Ids.f k x0).bind fun t253 => ((missiveref12_Ids.f k x0).bind fun t256 => ((missiveref09_SameTexts.f k t253 t256).bind fun t259 => (if t259 = true then ((msgid_Refs.f k x1).bind fun t260 => ((missiveref12_Refs.f k x1).bind fun t263 => ((missiveref09_SameTexts.f k t260 t263).bind fun t266 => (some t266)))) else (some false))))) else (some false))
end
def missivelaw12_MsgidTells.f (k : Nat) (a0 : ByteArray) (l1 : List (S37)) : Option (Bool) := (missivelaw12_small.f k).bind fun t239 => (if (a0.size : Int) > 1000 then (missivelaw12_MsgidTells.j0 k a0 l1 t239 true) else ((missivelaw12_few.f k l1).bind fun t240 => (missivelaw12_MsgidTells.j0 k a0 l1 t239 (!t240))))
theorem missivelaw12_MsgidTells.mono_l : ∀ k, (∀ y0 y1 y2 y3, LeO (missivelaw12_MsgidTells.j0 k y0 y1 y2 y3) (missivelaw12_MsgidTells.j0 (k + 1) y0 y1 y2 y3)) ∧ (∀ y0 y1 y2 y3, LeO (missivelaw12_MsgidTells.j1 k y0 y1 y2 y3) (missivelaw12_MsgidTells.j1 (k + 1) y0 y1 y2 y3))
  | 0 => ⟨fun _ _ _ _ r h => by simp [missivelaw12_MsgidTells.j0] at h, fun _ _ _ _ r h => by simp [missivelaw12_MsgidTells.j1] at h⟩
  | k + 1 => by
    obtain ⟨ih0, ih1⟩ := missivelaw12_MsgidTells.mono_l k
    refine ⟨?_, ?_⟩
    · intro y0 y1 y2 y3
      unfold missivelaw12_MsgidTells.j0
      repeat' first
      | (with_reducible exact ih0 _ _ _ _)
      | (with_reducible exact ih1 _ _ _ _)
      | (with_reducible exact missivelaw12_few.mono _ _)
      | (with_reducible exact missivelaw12_small.mono _)
      | (with_reducible exact missiveref09_SameTexts.mono _ _ _)
      | (with_reducible exact missiveref12_First.mono _ _)
      | (with_reducible exact missiveref12_Ids.mono _ _)
      | (with_reducible exact missiveref12_Make.mono _ _)
      | (with_reducible exact missiveref12_Own.mono _ _)
      | (with_reducible exact missiveref12_Refs.mono _ _)
      | (with_reducible exact missiveref12_Valid.mono _ _)
      | (with_reducible exact msgid_First.mono _ _)
      | (with_reducible exact msgid_Ids.mono _ _)
      | (with_reducible exact msgid_Own.mono _ _)
      | (with_reducible exact msgid_Refs.mono _ _)
      | (with_reducible exact msgid_Valid.mono _ _)
      | (with_reducible exact LeO.refl _)
      | (with_reducible exact LeO.none _)
      | (with_reducible refine LeO.ite ?_ ?_)
      | (with_reducible refine LeO.bind ?_ (fun _ => ?_))
      | exact ih0 _ _ _ _
      | exact ih1 _ _ _ _
      | exact missivelaw12_few.mono _ _
      | exact missivelaw12_small.mono _
      | exact missiveref09_SameTexts.mono _ _ _
      | exact missiveref12_First.mono _ _
      | exact missiveref12_Ids.mono _ _
      | exact missiveref12_Make.mono _ _
      | exact missiveref12_Own.mono _ _
      | exact missiveref12_Refs.mono _ _
      | exact missiveref12_Valid.mono _ _
      | exact msgid_First.mono _ _
      | exact msgid_Ids.mono _ _
      | exact msgid_Own.mono _ _
      | exact msgid_Refs.mono _ _
      | exact msgid_Valid.mono _ _
      | exact LeO.none _
      | refine LeO.ite ?_ ?_
      | refine LeO.bind ?_ (fun _ => ?_)
    · intro y0 y1 y2 y3
      unfold missivelaw12_MsgidTells.j1
      repeat' first
      | (with_reducible exact ih0 _ _ _ _)
      | (with_reducible exact ih1 _ _ _ _)
      | (with_reducible exact missivelaw12_few.mono _ _)
      | (with_reducible exact missivelaw12_small.mono _)
      | (with_reducible exact missiveref09_SameTexts.mono _ _ _)
      | (with_reducible exact missiveref12_First.mono _ _)
      | (with_reducible exact missiveref12_Ids.mono _ _)
      | (with_reducible exact missiveref12_Make.mono _ _)
      | (with_reducible exact missiveref12_Own.mono _ _)
      | (with_reducible exact missiveref12_Refs.mono _ _)
      | (with_reducible exact missiveref12_Valid.mono _ _)
      | (with_reducible exact msgid_First.mono _ _)
      | (with_reducible exact msgid_Ids.mono _ _)
      | (with_reducible exact msgid_Own.mono _ _)
      | (with_reducible exact msgid_Refs.mono _ _)
      | (with_reducible exact msgid_Valid.mono _ _)
      | (with_reducible exact LeO.refl _)
      | (with_reducible exact LeO.none _)
      | (with_reducible refine LeO.ite ?_ ?_)
      | (with_reducible refine LeO.bind ?_ (fun _ => ?_))
      | exact ih0 _ _ _ _
      | exact ih1 _ _ _ _
      | exact missivelaw12_few.mono _ _
      | exact missivelaw12_small.mono _
      | exact missiveref09_SameTexts.mono _ _ _
      | exact missiveref12_First.mono _ _
      | exact missiveref12_Ids.mono _ _
      | exact missiveref12_Make.mono _ _
      | exact missiveref12_Own.mono _ _
      | exact missiveref12_Refs.mono _ _
      | exact missiveref12_Valid.mono _ _
      | exact msgid_First.mono _ _
      | exact msgid_Ids.mono _ _
      | exact msgid_Own.mono _ _
      | exact msgid_Refs.mono _ _
      | exact msgid_Valid.mono _ _
      | exact LeO.none _
      | refine LeO.ite ?_ ?_
      | refine LeO.bind ?_ (fun _ => ?_)
theorem missivelaw12_MsgidTells.mono : ∀ a0 a1 k, LeO (missivelaw12_MsgidTells.f k a0 a1) (missivelaw12_MsgidTells.f (k + 1) a0 a1) := by
  intro a0 a1 k
  obtain ⟨ih0, ih1⟩ := missivelaw12_MsgidTells.mono_l k
  unfold missivelaw12_MsgidTells.f
  repeat' first
      | (with_reducible exact ih0 _ _ _ _)
      | (with_reducible exact ih1 _ _ _ _)
      | (with_reducible exact missivelaw12_few.mono _ _)
      | (with_reducible exact missivelaw12_small.mono _)
      | (with_reducible exact missiveref09_SameTexts.mono _ _ _)
      | (with_reducible exact missiveref12_First.mono _ _)
      | (with_reducible exact missiveref12_Ids.mono _ _)
      | (with_reducible exact missiveref12_Make.mono _ _)
      | (with_reducible exact missiveref12_Own.mono _ _)
      | (with_reducible exact missiveref12_Refs.mono _ _)
      | (with_reducible exact missiveref12_Valid.mono _ _)
      | (with_reducible exact msgid_First.mono _ _)
      | (with_reducible exact msgid_Ids.mono _ _)
      | (with_reducible exact msgid_Own.mono _ _)
      | (with_reducible exact msgid_Refs.mono _ _)
      | (with_reducible exact msgid_Valid.mono _ _)
      | (with_reducible exact LeO.refl _)
      | (with_reducible exact LeO.none _)
      | (with_reducible refine LeO.ite ?_ ?_)
      | (with_reducible refine LeO.bind ?_ (fun _ => ?_))
      | exact ih0 _ _ _ _
      | exact ih1 _ _ _ _
      | exact missivelaw12_few.mono _ _
      | exact missivelaw12_small.mono _
      | exact missiveref09_SameTexts.mono _ _ _
      | exact missiveref12_First.mono _ _
      | exact missiveref12_Ids.mono _ _
      | exact missiveref12_Make.mono _ _
      | exact missiveref12_Own.mono _ _
      | exact missiveref12_Refs.mono _ _
      | exact missiveref12_Valid.mono _ _
      | exact msgid_First.mono _ _
      | exact msgid_Ids.mono _ _
      | exact msgid_Own.mono _ _
      | exact msgid_Refs.mono _ _
      | exact msgid_Valid.mono _ _
      | exact LeO.none _
      | refine LeO.ite ?_ ?_
      | refine LeO.bind ?_ (fun _ => ?_)
set_option maxHeartbeats 8000000 in
set_option maxRecDepth 100000 in
theorem missivelaw12_MsgidTells.calls (k : Nat) (a0 : ByteArray) (A1 : Option Addr) (c1 : Nat) (l1 : List (S37)) (r : Bool) (w : World) (hr1 : Kd.C k37 w A1 l1.length l1) (hc1 : l1.length ≤ c1) (h : missivelaw12_MsgidTells.f k a0 l1 = some r) (hG_ : Go.Proofs.YtlldpjcnkckclaaDoor.Hand.Laid w) :
    Calls Tryd.prog 3 #[.string a0, .slice A1 l1.length c1] w fun e w' => e = .returned (.bool r) ∧ Below w.heap.size w w' := by
  have HR1 := Aside0.mk hr1
  have HC1 := Aside0.mk hc1
  clear hr1 hc1
  have HB := Aside0.mk (Below.refl w.heap.size w)
  have H : ((missivelaw12_small.f k).bind fun t239 => (if (a0.size : Int) > 1000 then (missivelaw12_MsgidTells.j0 k a0 l1 t239 true) else ((missivelaw12_few.f k l1).bind fun t240 => (missivelaw12_MsgidTells.j0 k a0 l1 t239 (!t240))))) = some r := h
  clear h
  replace H := Option.bind_eq_some_iff.mp H
  obtain ⟨t239, A30, H⟩ := H
  replace H : (if (a0.size : Int) > 1000 then (missivelaw12_MsgidTells.j0 k a0 l1 t239 true) else ((missivelaw12_few.f k l1).bind fun t240 => (missivelaw12_MsgidTells.j0 k a0 l1 t239 (!t240)))) = some r := H
  have A3 := Aside0.mk A30
  clear A30
  have HC4 := Aside0.mk H
  clear H
  go_enter Tryd.func3, Tryd.ntmps3
  go_upto_region 2 with (first | ((with_reducible refine gate_callee (f := 7) rfl ?_); refine goesL_ (some 14) rfl rfl Tryd.func7 (by kernel_rfl) rfl #[] rfl (by (try simp only [List.map_toArray, List.map_cons, List.map_nil]); first | done | rfl | (simp only [List.length_drop, List.length_take]; rfl)) ?_; (with_reducible refine (missivelaw12_small.calls k  t239 _ A3.out ?sideG).mono ?_); (case sideG => exact Go.Proofs.YtlldpjcnkckclaaDoor.Hand.Laid.below hG_ (by repeat (first | (with_reducible first | exact HB.out | apply below_alloc | apply pw_below_drewN | apply below_drew1) | exact HB.out))); rintro e w5 ⟨rfl, hb⟩; refine ⟨_, rfl, ?_⟩; have n0_ := Aside0.mk (below_step (by repeat (first | (with_reducible first | exact HB.out | apply below_alloc | apply pw_below_drewN | apply below_drew1) | exact HB.out)) hb); clear HB; have HB := n0_; clear n0_; (try clear hb); (try clear hb2); (try clear hk); (try clear hi)))
  (try simp only [Act.put, List.setIfInBounds_toArray, List.set_cons_zero, List.set_cons_succ])
  go_cut [22] (fun v22 wc => ∃ (kq : Nat) (x22_3 : Bool), v22 = .bool x22_3 ∧ Aside0 (missivelaw12_MsgidTells.j0 kq a0 l1 t239 x22_3 = some r) ∧ Aside0 (kq ≤ k) ∧ Aside0 (Below w.heap.size w wc))
  case first =>
    have H := HC4.out
    clear HC4
    by_cases c6 : (a0.size : Int) > 1000
    · rw [if_pos c6] at H
      have c6b0 : decide (1000 < (a0.size : Int)) = true := decide_eq_true c6
      have c6b1 : decide (1000 < a0.size) = true := decide_eq_true (by omega)
      clear c6
      (first | rw [c6b0] | (simp only [i64_w, i32_w]; rw [c6b0]) | skip)
      have H' := Aside0.mk H
      clear H
      go_wp2
      go_meet
      case rel => exact ⟨_, (true), (by first | rfl | (simp; done) | (simp [*]; done)), H', ⟨by first | omega | exact Nat.le_refl _⟩, ⟨by repeat (first | (with_reducible first | exact HB.out | apply below_alloc | apply pw_below_drewN | apply below_drew1) | exact HB.out)⟩⟩
    · rw [if_neg c6] at H
      have c6b0 : decide (1000 < (a0.size : Int)) = false := decide_eq_false c6
      have c6b1 : decide (1000 < a0.size) = false := decide_eq_false (by omega)
      clear c6
      (first | rw [c6b0] | (simp only [i64_w, i32_w]; rw [c6b0]) | skip)
      replace H := Option.bind_eq_some_iff.mp H
      obtain ⟨t240, A70, H⟩ := H
      replace H : (missivelaw12_MsgidTells.j0 k a0 l1 t239 (!t240)) = some r := H
      have A7 := Aside0.mk A70
      clear A70
      have H' := Aside0.mk H
      clear H
      go_wp2_with (first | (go_at_call 8; (with_reducible refine (missivelaw12_few.calls k _ _ l1 t240 _ ?side1 ?side2 A7.out).mono ?_); (case side1 => repeat (first | exact (Kd.C_below HR1.out HB.out) | (with_reducible refine Kd.C_alloc ?_ _) | (with_reducible refine Kd.C_drewN ?_ _) | (with_reducible refine Kd.C_drew ?_))); (case side2 => exact HC1.out); rintro e w' ⟨rfl, ⟨nd, rfl⟩⟩))
      go_meet
      case rel => exact ⟨_, (!t240), (by first | rfl | (simp; done) | (simp [*]; done)), H', ⟨by first | omega | exact Nat.le_refl _⟩, ⟨by repeat (first | (with_reducible first | exact HB.out | apply below_alloc | apply pw_below_drewN | apply below_drew1) | exact HB.out)⟩⟩
  case rest =>
    clear HC4
    try clear c1
    try clear p2
    try clear c3
    try clear c6
    try clear c6b0
    try clear c6b1
    try clear c7
    obtain ⟨kq, x22_3, rfl, HA, HJ3, HB⟩ := hcut
    cases kq with
    | zero => exact absurd HA.out (by simp [missivelaw12_MsgidTells.j0])
    | succ kj3 =>
      have H := HA.out
      clear HA
      simp only [missivelaw12_MsgidTells.j0] at H
      by_cases c8 : x22_3 = true
      · subst c8
        have H1 : (some t239) = some r := by rw [if_pos rfl] at H; exact H
        clear H
        have H := H1
        clear H1
        obtain rfl := Option.some.inj H
        go_wp2
        go_ret
        exact ⟨by first | rfl | (simp [errW_none, errW_some] <;> rfl) | (simp [*, errW_none, errW_some] <;> rfl), by repeat (first | (with_reducible first | exact HB.out | apply below_alloc | apply pw_below_drewN | apply below_drew1) | exact HB.out)⟩
      · replace c8 := Bool.eq_false_iff.mpr c8
        subst c8
        have H1 : ((msgid_First.f kj3 a0).bind fun bt241 => ((missiveref12_First.f kj3 a0).bind fun bt243 => ((msgid_Own.f kj3 l1).bind fun bt245 => ((missiveref12_Own.f kj3 l1).bind fun bt247 => (if bt241.1.toList = bt243.1.toList then (if (bt241.2 != bt243.2) = true then (missivelaw12_MsgidTells.j1 kj3 a0 l1 t239 true) else (if bt245.1.toList = bt247.1.toList then (if (bt245.2 != bt247.2) = true then (missivelaw12_MsgidTells.j1 kj3 a0 l1 t239 true) else ((msgid_Valid.f kj3 a0).bind fun t249 => ((missiveref12_Valid.f kj3 a0).bind fun t250 => (if (t249 != t250) = true then (missivelaw12_MsgidTells.j1 kj3 a0 l1 t239 true) else ((msgid_Make.f a0).bind fun t251 => ((missiveref12_Make.f kj3 a0).bind fun t252 => (missivelaw12_MsgidTells.j1 kj3 a0 l1 t239 (t251.toList != t252.toList)))))))) else (missivelaw12_MsgidTells.j1 kj3 a0 l1 t239 true))) else (missivelaw12_MsgidTells.j1 kj3 a0 l1 t239 true)))))) = some r := by rw [if_neg (show ¬ (false = true) by decide)] at H; exact H
        clear H
        have H := H1
        clear H1
        replace H := Option.bind_eq_some_iff.mp H
        obtain ⟨⟨t241, t242⟩, A90, H⟩ := H
        replace H : ((missiveref12_First.f kj3 a0).bind fun bt243 => ((msgid_Own.f kj3 l1).bind fun bt245 => ((missiveref12_Own.f kj3 l1).bind fun bt247 => (if t241.toList = bt243.1.toList then (if (t242 != bt243.2) = true then (missivelaw12_MsgidTells.j1 kj3 a0 l1 t239 true) else (if bt245.1.toList = bt247.1.toList then (if (bt245.2 != bt247.2) = true then (missivelaw12_MsgidTells.j1 kj3 a0 l1 t239 true) else ((msgid_Valid.f kj3 a0).bind fun t249 => ((missiveref12_Valid.f kj3 a0).bind fun t250 => (if (t249 != t250) = true then (missivelaw12_MsgidTells.j1 kj3 a0 l1 t239 true) else ((msgid_Make.f a0).bind fun t251 => ((missiveref12_Make.f kj3 a0).bind fun t252 => (missivelaw12_MsgidTells.j1 kj3 a0 l1 t239 (t251.toList != t252.toList)))))))) else (missivelaw12_MsgidTells.j1 kj3 a0 l1 t239 true))) else (missivelaw12_MsgidTells.j1 kj3 a0 l1 t239 true))))) = some r := H
        have A9 := Aside0.mk A90
        clear A90
        replace H := Option.bind_eq_some_iff.mp H
        obtain ⟨⟨t243, t244⟩, A100, H⟩ := H
        replace H : ((msgid_Own.f kj3 l1).bind fun bt245 => ((missiveref12_Own.f kj3 l1).bind fun bt247 => (if t241.toList = t243.toList then (if (t242 != t244) = true then (missivelaw12_MsgidTells.j1 kj3 a0 l1 t239 true) else (if bt245.1.toList = bt247.1.toList then (if (bt245.2 != bt247.2) = true then (missivelaw12_MsgidTells.j1 kj3 a0 l1 t239 true) else ((msgid_Valid.f kj3 a0).bind fun t249 => ((missiveref12_Valid.f kj3 a0).bind fun t250 => (if (t249 != t250) = true then (missivelaw12_MsgidTells.j1 kj3 a0 l1 t239 true) else ((msgid_Make.f a0).bind fun t251 => ((missiveref12_Make.f kj3 a0).bind fun t252 => (missivelaw12_MsgidTells.j1 kj3 a0 l1 t239 (t251.toList != t252.toList)))))))) else (missivelaw12_MsgidTells.j1 kj3 a0 l1 t239 true))) else (missivelaw12_MsgidTells.j1 kj3 a0 l1 t239 true)))) = some r := H
        have A10 := Aside0.mk A100
        clear A100
        replace H := Option.bind_eq_some_iff.mp H
        obtain ⟨⟨t245, t246⟩, A110, H⟩ := H
        replace H : ((missiveref12_Own.f kj3 l1).bind fun bt247 => (if t241.toList = t243.toList then (if (t242 != t244) = true then (missivelaw12_MsgidTells.j1 kj3 a0 l1 t239 true) else (if t245.toList = bt247.1.toList then (if (t246 != bt247.2) = true then (missivelaw12_MsgidTells.j1 kj3 a0 l1 t239 true) else ((msgid_Valid.f kj3 a0).bind fun t249 => ((missiveref12_Valid.f kj3 a0).bind fun t250 => (if (t249 != t250) = true then (missivelaw12_MsgidTells.j1 kj3 a0 l1 t239 true) else ((msgid_Make.f a0).bind fun t251 => ((missiveref12_Make.f kj3 a0).bind fun t252 => (missivelaw12_MsgidTells.j1 kj3 a0 l1 t239 (t251.toList != t252.toList)))))))) else (missivelaw12_MsgidTells.j1 kj3 a0 l1 t239 true))) else (missivelaw12_MsgidTells.j1 kj3 a0 l1 t239 true))) = some r := H
        have A11 := Aside0.mk A110
        clear A110
        replace H := Option.bind_eq_some_iff.mp H
        obtain ⟨⟨t247, t248⟩, A120, H⟩ := H
        replace H : (if t241.toList = t243.toList then (if (t242 != t244) = true then (missivelaw12_MsgidTells.j1 kj3 a0 l1 t239 true) else (if t245.toList = t247.toList then (if (t246 != t248) = true then (missivelaw12_MsgidTells.j1 kj3 a0 l1 t239 true) else ((msgid_Valid.f kj3 a0).bind fun t249 => ((missiveref12_Valid.f kj3 a0).bind fun t250 => (if (t249 != t250) = true then (missivelaw12_MsgidTells.j1 kj3 a0 l1 t239 true) else ((msgid_Make.f a0).bind fun t251 => ((missiveref12_Make.f kj3 a0).bind fun t252 => (missivelaw12_MsgidTells.j1 kj3 a0 l1 t239 (t251.toList != t252.toList)))))))) else (missivelaw12_MsgidTells.j1 kj3 a0 l1 t239 true))) else (missivelaw12_MsgidTells.j1 kj3 a0 l1 t239 true)) = some r := H
        have A12 := Aside0.mk A120
        clear A120
        have HC13 := Aside0.mk H
        clear H
        go_upto_region 8 with (first | ((with_reducible refine gate_callee (f := 9) rfl ?_); refine goesL_ (some 26) rfl rfl Tryd.func9 (by kernel_rfl) rfl #[.string a0] rfl (by (try simp only [List.map_toArray, List.map_cons, List.map_nil]); first | done | rfl | (simp only [List.length_drop, List.length_take]; rfl)) ?_; (with_reducible refine (msgid_First.calls kj3 a0 t241 t242 _ A9.out).mono ?_); rintro e w14 ⟨rfl, hb⟩; refine ⟨_, rfl, ?_⟩; have n0_ := Aside0.mk (below_step (by repeat (first | (with_reducible first | exact HB.out | apply below_alloc | apply pw_below_drewN | apply below_drew1) | exact HB.out)) hb); clear HB; have HB := n0_; clear n0_; (try clear hb); (try clear hb2); (try clear hk); (try clear hi)) | ((with_reducible refine gate_callee (f := 10) rfl ?_); refine goesL_ (some 31) rfl rfl Tryd.func10 (by kernel_rfl) rfl #[.string a0] rfl (by (try simp only [List.map_toArray, List.map_cons, List.map_nil]); first | done | rfl | (simp only [List.length_drop, List.length_take]; rfl)) ?_; (with_reducible refine (missiveref12_First.calls kj3 a0 t243 t244 _ A10.out).mono ?_); rintro e w15 ⟨rfl, hb⟩; refine ⟨_, rfl, ?_⟩; have n0_ := Aside0.mk (below_step (by repeat (first | (with_reducible first | exact HB.out | apply below_alloc | apply pw_below_drewN | apply below_drew1) | exact HB.out)) hb); clear HB; have HB := n0_; clear n0_; (try clear hb); (try clear hb2); (try clear hk); (try clear hi)) | ((with_reducible refine gate_callee (f := 11) rfl ?_); refine goesL_ (some 36) rfl rfl Tryd.func11 (by kernel_rfl) rfl #[.slice A1 l1.length c1] rfl (by (try simp only [List.map_toArray, List.map_cons, List.map_nil]); first | done | rfl | (simp only [List.length_drop, List.length_take]; rfl)) ?_; (with_reducible refine (msgid_Own.calls kj3 _ _ l1 t245 t246 _ ?side1 ?side2 A11.out).mono ?_); (case side1 => repeat (first | exact (Kd.C_below HR1.out HB.out) | (with_reducible refine Kd.C_alloc ?_ _) | (with_reducible refine Kd.C_drewN ?_ _) | (with_reducible refine Kd.C_drew ?_))); (case side2 => exact HC1.out); rintro e w16 ⟨rfl, hb⟩; refine ⟨_, rfl, ?_⟩; have n0_ := Aside0.mk (below_step (by repeat (first | (with_reducible first | exact HB.out | apply below_alloc | apply pw_below_drewN | apply below_drew1) | exact HB.out)) hb); clear HB; have HB := n0_; clear n0_; (try clear hb); (try clear hb2); (try clear hk); (try clear hi)) | ((with_reducible refine gate_callee (f := 12) rfl ?_); refine goesL_ (some 41) rfl rfl Tryd.func12 (by kernel_rfl) rfl #[.slice A1 l1.length c1] rfl (by (try simp only [List.map_toArray, List.map_cons, List.map_nil]); first | done | rfl | (simp only [List.length_drop, List.length_take]; rfl)) ?_; (with_reducible refine (missiveref12_Own.calls kj3 _ _ l1 t247 t248 _ ?side1 ?side2 A12.out).mono ?_); (case side1 => repeat (first | exact (Kd.C_below HR1.out HB.out) | (with_reducible refine Kd.C_alloc ?_ _) | (with_reducible refine Kd.C_drewN ?_ _) | (with_reducible refine Kd.C_drew ?_))); (case side2 => exact HC1.out); rintro e w17 ⟨rfl, hb⟩; refine ⟨_, rfl, ?_⟩; have n0_ := Aside0.mk (below_step (by repeat (first | (with_reducible first | exact HB.out | apply below_alloc | apply pw_below_drewN | apply below_drew1) | exact HB.out)) hb); clear HB; have HB := n0_; clear n0_; (try clear hb); (try clear hb2); (try clear hk); (try clear hi)))
        (try simp only [Act.put, List.setIfInBounds_toArray, List.set_cons_zero, List.set_cons_succ])
        go_cut [75] (fun v75 wc => ∃ (kq : Nat) (x75_12 : Bool), v75 = .bool x75_12 ∧ Aside0 (missivelaw12_MsgidTells.j1 kq a0 l1 t239 x75_12 = some r) ∧ Aside0 (kq ≤ kj3) ∧ Aside0 (Below w.heap.size w wc))
        case first =>
          have H := HC13.out
          clear HC13
          by_cases c18 : t241.toList = t243.toList
          · rw [if_pos c18] at H
            have c18b0 : (t241.toList == t243.toList) = true := beq_iff_eq.mpr c18
            have c18b1 : (t241.toList != t243.toList) = false := bne_eq_false_iff_eq.mpr c18
            clear c18
            (first | rw [c18b0] | (simp only [i64_w, i32_w]; rw [c18b0]) | skip)
            by_cases c19 : (t242 != t244) = true
            · rw [if_pos c19] at H
              have c19b0 : (t242 != t244) = true := c19
              (try (have c19b1 : decide (t242 = t244) = false := by simpa using c19))
              (try (have c19b2 : (t242 == t244) = false := by simpa using c19))
              (try (have c19b3 : ¬ (t242 = t244) := by simpa using c19))
              clear c19
              have H' := Aside0.mk H
              clear H
              go_wp2
              go_meet
              case rel => exact ⟨_, (true), (by first | rfl | (simp; done) | (simp [*]; done)), H', ⟨by have := HJ3.out; first | omega | exact Nat.le_refl _⟩, ⟨by repeat (first | (with_reducible first | exact HB.out | apply below_alloc | apply pw_below_drewN | apply below_drew1) | exact HB.out)⟩⟩
            · rw [if_neg c19] at H
              have c19b0 : (t242 != t244) = false := by simpa using c19
              (try (have c19b1 : decide (t242 = t244) = true := by simpa using c19))
              (try (have c19b2 : (t242 == t244) = true := by simpa using c19))
              clear c19
              by_cases c20 : t245.toList = t247.toList
              · rw [if_pos c20] at H
                have c20b0 : (t245.toList == t247.toList) = true := beq_iff_eq.mpr c20
                have c20b1 : (t245.toList != t247.toList) = false := bne_eq_false_iff_eq.mpr c20
                clear c20
                by_cases c21 : (t246 != t248) = true
                · rw [if_pos c21] at H
                  have c21b0 : (t246 != t248) = true := c21
                  (try (have c21b1 : decide (t246 = t248) = false := by simpa using c21))
                  (try (have c21b2 : (t246 == t248) = false := by simpa using c21))
                  (try (have c21b3 : ¬ (t246 = t248) := by simpa using c21))
                  clear c21
                  have H' := Aside0.mk H
                  clear H
                  go_wp2
                  go_meet
                  case rel => exact ⟨_, (true), (by first | rfl | (simp; done) | (simp [*]; done)), H', ⟨by have := HJ3.out; first | omega | exact Nat.le_refl _⟩, ⟨by repeat (first | (with_reducible first | exact HB.out | apply below_alloc | apply pw_below_drewN | apply below_drew1) | exact HB.out)⟩⟩
                · rw [if_neg c21] at H
                  have c21b0 : (t246 != t248) = false := by simpa using c21
                  (try (have c21b1 : decide (t246 = t248) = true := by simpa using c21))
                  (try (have c21b2 : (t246 == t248) = true := by simpa using c21))
                  clear c21
                  replace H := Option.bind_eq_some_iff.mp H
                  obtain ⟨t249, A220, H⟩ := H
                  replace H : ((missiveref12_Valid.f kj3 a0).bind fun t250 => (if (t249 != t250) = true then (missivelaw12_MsgidTells.j1 kj3 a0 l1 t239 true) else ((msgid_Make.f a0).bind fun t251 => ((missiveref12_Make.f kj3 a0).bind fun t252 => (missivelaw12_MsgidTells.j1 kj3 a0 l1 t239 (t251.toList != t252.toList)))))) = some r := H
                  have A22 := Aside0.mk A220
                  clear A220
                  replace H := Option.bind_eq_some_iff.mp H
                  obtain ⟨t250, A230, H⟩ := H
                  replace H : (if (t249 != t250) = true then (missivelaw12_MsgidTells.j1 kj3 a0 l1 t239 true) else ((msgid_Make.f a0).bind fun t251 => ((missiveref12_Make.f kj3 a0).bind fun t252 => (missivelaw12_MsgidTells.j1 kj3 a0 l1 t239 (t251.toList != t252.toList))))) = some r := H
                  have A23 := Aside0.mk A230
                  clear A230
                  by_cases c24 : (t249 != t250) = true
                  · rw [if_pos c24] at H
                    have c24b0 : (t249 != t250) = true := c24
                    (try (have c24b1 : decide (t249 = t250) = false := by simpa using c24))
                    (try (have c24b2 : (t249 == t250) = false := by simpa using c24))
                    (try (have c24b3 : ¬ (t249 = t250) := by simpa using c24))
                    clear c24
                    have H' := Aside0.mk H
                    clear H
                    go_wp2_with (first | (go_at_call 13; (with_reducible refine (msgid_Valid.calls kj3 a0 t249 _ A22.out).mono ?_); rintro e w' ⟨rfl, ⟨nd, rfl⟩⟩) | (go_at_call 14; (with_reducible refine (missiveref12_Valid.calls kj3 a0 t250 _ A23.out).mono ?_); rintro e w' ⟨rfl, ⟨nd, rfl⟩⟩))
                    go_meet
                    case rel => exact ⟨_, (true), (by first | rfl | (simp; done) | (simp [*]; done)), H', ⟨by have := HJ3.out; first | omega | exact Nat.le_refl _⟩, ⟨by repeat (first | (with_reducible first | exact HB.out | apply below_alloc | apply pw_below_drewN | apply below_drew1) | exact HB.out)⟩⟩
                  · rw [if_neg c24] at H
                    have c24b0 : (t249 != t250) = false := by simpa using c24
                    (try (have c24b1 : decide (t249 = t250) = true := by simpa using c24))
                    (try (have c24b2 : (t249 == t250) = true := by simpa using c24))
                    clear c24
                    replace H := Option.bind_eq_some_iff.mp H
                    obtain ⟨t251, A250, H⟩ := H
                    replace H : ((missiveref12_Make.f kj3 a0).bind fun t252 => (missivelaw12_MsgidTells.j1 kj3 a0 l1 t239 (t251.toList != t252.toList))) = some r := H
                    have A25 := Aside0.mk A250
                    clear A250
                    replace H := Option.bind_eq_some_iff.mp H
                    obtain ⟨t252, A260, H⟩ := H
                    replace H : (missivelaw12_MsgidTells.j1 kj3 a0 l1 t239 (t251.toList != t252.toList)) = some r := H
                    have A26 := Aside0.mk A260
                    clear A260
                    have H' := Aside0.mk H
                    clear H
                    go_wp2_with (first | (go_at_call 13; (with_reducible refine (msgid_Valid.calls kj3 a0 t249 _ A22.out).mono ?_); rintro e w' ⟨rfl, ⟨nd, rfl⟩⟩) | (go_at_call 14; (with_reducible refine (missiveref12_Valid.calls kj3 a0 t250 _ A23.out).mono ?_); rintro e w' ⟨rfl, ⟨nd, rfl⟩⟩) | (go_at_call 15; (with_reducible refine (msgid_Make.calls a0 t251 _ A25.out).mono ?_); rintro e w27 ⟨rfl, hb⟩; have n0_ := Aside0.mk (below_step (by repeat (first | (with_reducible first | exact HB.out | apply below_alloc | apply pw_below_drewN | apply below_drew1) | exact HB.out)) hb); clear HB; have HB := n0_; clear n0_; (try clear hb); (try clear hb2); (try clear hk); (try clear hi)) | (go_at_call 16; (with_reducible refine (missiveref12_Make.calls kj3 a0 t252 _ A26.out).mono ?_); rintro e w28 ⟨rfl, hb⟩; have n0_ := Aside0.mk (below_step (by repeat (first | (with_reducible first | exact HB.out | apply below_alloc | apply pw_below_drewN | apply below_drew1) | exact HB.out)) hb); clear HB; have HB := n0_; clear n0_; (try clear hb); (try clear hb2); (try clear hk); (try clear hi)))
                    go_meet
                    case rel => exact ⟨_, ((t251.toList != t252.toList)), (by first | rfl | (simp; done) | (simp [*]; done)), H', ⟨by have := HJ3.out; first | omega | exact Nat.le_refl _⟩, ⟨by repeat (first | (with_reducible first | exact HB.out | apply below_alloc | apply pw_below_drewN | apply below_drew1) | exact HB.out)⟩⟩
              · rw [if_neg c20] at H
                have c20b0 : (t245.toList == t247.toList) = false := beq_eq_false_iff_ne.mpr c20
                have c20b1 : (t245.toList != t247.toList) = true := bne_iff_ne.mpr c20
                have H' := Aside0.mk H
                clear H
                go_wp2
                go_meet
                case rel => exact ⟨_, (true), (by first | rfl | (simp; done) | (simp [*]; done)), H', ⟨by have := HJ3.out; first | omega | exact Nat.le_refl _⟩, ⟨by repeat (first | (with_reducible first | exact HB.out | apply below_alloc | apply pw_below_drewN | apply below_drew1) | exact HB.out)⟩⟩
          · rw [if_neg c18] at H
            have c18b0 : (t241.toList == t243.toList) = false := beq_eq_false_iff_ne.mpr c18
            have c18b1 : (t241.toList != t243.toList) = true := bne_iff_ne.mpr c18
            (first | rw [c18b0] | (simp only [i64_w, i32_w]; rw [c18b0]) | skip)
            have H' := Aside0.mk H
            clear H
            go_wp2
            go_meet
            case rel => exact ⟨_, (true), (by first | rfl | (simp; done) | (simp [*]; done)), H', ⟨by have := HJ3.out; first | omega | exact Nat.le_refl _⟩, ⟨by repeat (first | (with_reducible first | exact HB.out | apply below_alloc | apply pw_below_drewN | apply below_drew1) | exact HB.out)⟩⟩
        case rest =>
          clear HC13
          try clear c1
          try clear c2
          try clear p2
          try clear c3
          try clear c6
          try clear c6b0
          try clear c6b1
          try clear c7
          try clear c8
          try clear c9
          try clear c10
          try clear c11
          try clear c12
          try clear c18
          try clear c18b0
          try clear c18b1
          try clear c19
          try clear c19b0
          try clear c19b1
          try clear c19b2
          try clear c20
          try clear c20b0
          try clear c20b1
          try clear c21
          try clear c21b0
          try clear c21b1
          try clear c21b2
          try clear c24
          try clear c24b0
          try clear c24b1
          try clear c24b2
          try clear p2
          obtain ⟨kq, x75_12, rfl, HA, HJ12, HB⟩ := hcut
          cases kq with
          | zero => exact absurd HA.out (by simp [missivelaw12_MsgidTells.j1])
          | succ kj12 =>
            have H := HA.out
            clear HA
            simp only [missivelaw12_MsgidTells.j1] at H
            by_cases c29 : x75_12 = true
            · subst c29
              have H1 : (some false) = some r := by rw [if_pos rfl] at H; exact H
              clear H
              have H := H1
              clear H1
              obtain rfl := Option.some.inj H
              go_wp2
              go_ret
              exact ⟨by first | rfl | (simp [errW_none, errW_some] <;> rfl) | (simp [*, errW_none, errW_some] <;> rfl), by repeat (first | (with_reducible first | exact HB.out | apply below_alloc | apply pw_below_drewN | apply below_drew1) | exact HB.out)⟩
            · replace c29 := Bool.eq_false_iff.mpr c29
              subst c29
              have H1 : (if t239 = true then ((msgid_Ids.f kj12 a0).bind fun t253 => ((missiveref12_Ids.f kj12 a0).bind fun t256 => ((missiveref09_SameTexts.f kj12 t253 t256).bind fun t259 => (if t259 = true then ((msgid_Refs.f kj12 l1).bind fun t260 => ((missiveref12_Refs.f kj12 l1).bind fun t263 => ((missiveref09_SameTexts.f kj12 t260 t263).bind fun t266 => (some t266)))) else (some false))))) else (some false)) = some r := by rw [if_neg (show ¬ (false = true) by decide)] at H; exact H
              clear H
              have H := H1
              clear H1
              by_cases c30 : t239 = true
              · subst c30
                have H1 : ((msgid_Ids.f kj12 a0).bind fun t253 => ((missiveref12_Ids.f kj12 a0).bind fun t256 => ((missiveref09_SameTexts.f kj12 t253 t256).bind fun t259 => (if t259 = true then ((msgid_Refs.f kj12 l1).bind fun t260 => ((missiveref12_Refs.f kj12 l1).bind fun t263 => ((missiveref09_SameTexts.f kj12 t260 t263).bind fun t266 => (some t266)))) else (some false))))) = some r := by rw [if_pos rfl] at H; exact H
                clear H
                have H := H1
                clear H1
                replace H := Option.bind_eq_some_iff.mp H
                obtain ⟨t253, A310, H⟩ := H
                replace H : ((missiveref12_Ids.f kj12 a0).bind fun t256 => ((missiveref09_SameTexts.f kj12 t253 t256).bind fun t259 => (if t259 = true then ((msgid_Refs.f kj12 l1).bind fun t260 => ((missiveref12_Refs.f kj12 l1).bind fun t263 => ((missiveref09_SameTexts.f kj12 t260 t263).bind fun t266 => (some t266)))) else (some false)))) = some r := H
                have A31 := Aside0.mk A310
                clear A310
                replace H := Option.bind_eq_some_iff.mp H
                obtain ⟨t256, A320, H⟩ := H
                replace H : ((missiveref09_SameTexts.f kj12 t253 t256).bind fun t259 => (if t259 = true then ((msgid_Refs.f kj12 l1).bind fun t260 => ((missiveref12_Refs.f kj12 l1).bind fun t263 => ((missiveref09_SameTexts.f kj12 t260 t263).bind fun t266 => (some t266)))) else (some false))) = some r := H
                have A32 := Aside0.mk A320
                clear A320
                replace H := Option.bind_eq_some_iff.mp H
                obtain ⟨t259, A330, H⟩ := H
                replace H : (if t259 = true then ((msgid_Refs.f kj12 l1).bind fun t260 => ((missiveref12_Refs.f kj12 l1).bind fun t263 => ((missiveref09_SameTexts.f kj12 t260 t263).bind fun t266 => (some t266)))) else (some false)) = some r := H
                have A33 := Aside0.mk A330
                clear A330
                by_cases c34 : t259 = true
                · subst c34
                  have H1 : ((msgid_Refs.f kj12 l1).bind fun t260 => ((missiveref12_Refs.f kj12 l1).bind fun t263 => ((missiveref09_SameTexts.f kj12 t260 t263).bind fun t266 => (some t266)))) = some r := by rw [if_pos rfl] at H; exact H
                  clear H
                  have H := H1
                  clear H1
                  replace H := Option.bind_eq_some_iff.mp H
                  obtain ⟨t260, A350, H⟩ := H
                  replace H : ((missiveref12_Refs.f kj12 l1).bind fun t263 => ((missiveref09_SameTexts.f kj12 t260 t263).bind fun t266 => (some t266))) = some r := H
                  have A35 := Aside0.mk A350
                  clear A350
                  replace H := Option.bind_eq_some_iff.mp H
                  obtain ⟨t263, A360, H⟩ := H
                  replace H : ((missiveref09_SameTexts.f kj12 t260 t263).bind fun t266 => (some t266)) = some r := H
                  have A36 := Aside0.mk A360
                  clear A360
                  replace H := Option.bind_eq_some_iff.mp H
                  obtain ⟨t266, A370, H⟩ := H
                  replace H : (some t266) = some r := H
                  have A37 := Aside0.mk A370
                  clear A370
                  obtain rfl := Option.some.inj H
                  go_wp2_with (first | (go_at_call 18; (with_reducible refine (msgid_Ids.calls kj12 a0 t253 _ A31.out).mono ?_); rintro e w38 ⟨v254, rfl, ho0, hb⟩; have n0_ := Aside0.mk (Kd.R_lower ho0 (below_size (by repeat (first | (with_reducible first | exact HB.out | apply below_alloc | apply pw_below_drewN | apply below_drew1) | exact HB.out)))); have n1_ := Aside0.mk (below_step (by repeat (first | (with_reducible first | exact HB.out | apply below_alloc | apply pw_below_drewN | apply below_drew1) | exact HB.out)) hb); clear HB; have HO255 := n0_; have HB := n1_; clear n0_ n1_; (try clear hb); (try clear hb2); (try clear hk); (try clear hi); (try clear ho0)) | (go_at_call 19; (with_reducible refine (missiveref12_Ids.calls kj12 a0 t256 _ A32.out).mono ?_); rintro e w39 ⟨v257, rfl, ho0, hb⟩; have n0_ := Aside0.mk (Kd.R_elder' (by (with_reducible repeat (first | apply Kd.R_alloc | apply Kd.R_drewN | apply Kd.R_drew)); exact HO255.out) (Kd.R_base ho0) hb); have n1_ := Aside0.mk (Kd.R_lower (Kd.R_new' ho0 (Kd.R_lt (by (with_reducible repeat (first | apply Kd.R_alloc | apply Kd.R_drewN | apply Kd.R_drew)); exact HO255.out))) (below_size (by repeat (first | (with_reducible first | exact HB.out | apply below_alloc | apply pw_below_drewN | apply below_drew1) | exact HB.out)))); have n2_ := Aside0.mk (below_step (by repeat (first | (with_reducible first | exact HB.out | apply below_alloc | apply pw_below_drewN | apply below_drew1) | exact HB.out)) hb); clear HO255; clear HB; have HO255 := n0_; have HO258 := n1_; have HB := n2_; clear n0_ n1_ n2_; (try clear hb); (try clear hb2); (try clear hk); (try clear hi); (try clear ho0); obtain ⟨Ao40, co40, eo40⟩ := Kd.R_slice HO255.out; subst eo40; obtain ⟨Ao41, co41, eo41⟩ := Kd.R_slice HO258.out; subst eo41) | (go_at_call 17; (with_reducible refine (missiveref09_SameTexts.calls kj12 _ _ t253 _ _ t256 true _ ?side1 ?side2 ?side3 ?side4 A33.out).mono ?_); (case side1 => repeat (first | exact (Kd.R_reads' HO255.out).2.2 | (with_reducible refine Kd.C_alloc ?_ _) | (with_reducible refine Kd.C_drewN ?_ _) | (with_reducible refine Kd.C_drew ?_))); (case side2 => exact (Kd.R_reads' HO255.out).2.1); (case side3 => repeat (first | exact (Kd.R_reads' HO258.out).2.2 | (with_reducible refine Kd.C_alloc ?_ _) | (with_reducible refine Kd.C_drewN ?_ _) | (with_reducible refine Kd.C_drew ?_))); (case side4 => exact (Kd.R_reads' HO258.out).2.1); rintro e w' ⟨rfl, ⟨nd, rfl⟩⟩) | (go_at_call 20; (with_reducible refine (msgid_Refs.calls kj12 _ _ l1 t260 _ ?side1 ?side2 A35.out).mono ?_); (case side1 => repeat (first | exact (Kd.C_below HR1.out (by repeat (first | (with_reducible first | exact HB.out | apply below_alloc | apply pw_below_drewN | apply below_drew1) | exact HB.out))) | (with_reducible refine Kd.C_alloc ?_ _) | (with_reducible refine Kd.C_drewN ?_ _) | (with_reducible refine Kd.C_drew ?_))); (case side2 => exact HC1.out); rintro e w42 ⟨v261, rfl, ho0, hb⟩; have n0_ := Aside0.mk (Kd.R_elder' (by (with_reducible repeat (first | apply Kd.R_alloc | apply Kd.R_drewN | apply Kd.R_drew)); exact HO255.out) (Kd.R_base ho0) hb); have n1_ := Aside0.mk (Kd.R_elder' (by (with_reducible repeat (first | apply Kd.R_alloc | apply Kd.R_drewN | apply Kd.R_drew)); exact HO258.out) (Kd.R_base ho0) hb); have n2_ := Aside0.mk (Kd.R_lower (Kd.R_new' (Kd.R_new' ho0 (Kd.R_lt (by (with_reducible repeat (first | apply Kd.R_alloc | apply Kd.R_drewN | apply Kd.R_drew)); exact HO255.out))) (Kd.R_lt (by (with_reducible repeat (first | apply Kd.R_alloc | apply Kd.R_drewN | apply Kd.R_drew)); exact HO258.out))) (below_size (by repeat (first | (with_reducible first | exact HB.out | apply below_alloc | apply pw_below_drewN | apply below_drew1) | exact HB.out)))); have n3_ := Aside0.mk (below_step (by repeat (first | (with_reducible first | exact HB.out | apply below_alloc | apply pw_below_drewN | apply below_drew1) | exact HB.out)) hb); clear HO255; clear HO258; clear HB; have HO255 := n0_; have HO258 := n1_; have HO262 := n2_; have HB := n3_; clear n0_ n1_ n2_ n3_; (try clear hb); (try clear hb2); (try clear hk); (try clear hi); (try clear ho0)) | (go_at_call 21; (with_reducible refine (missiveref12_Refs.calls kj12 _ _ l1 t263 _ ?side1 ?side2 A36.out).mono ?_); (case side1 => repeat (first | exact (Kd.C_below HR1.out HB.out) | (with_reducible refine Kd.C_alloc ?_ _) | (with_reducible refine Kd.C_drewN ?_ _) | (with_reducible refine Kd.C_drew ?_))); (case side2 => exact HC1.out); rintro e w43 ⟨v264, rfl, ho0, hb⟩; have n0_ := Aside0.mk (Kd.R_elder' (by (with_reducible repeat (first | apply Kd.R_alloc | apply Kd.R_drewN | apply Kd.R_drew)); exact HO255.out) (Kd.Q_base ho0) hb); have n1_ := Aside0.mk (Kd.R_elder' (by (with_reducible repeat (first | apply Kd.R_alloc | apply Kd.R_drewN | apply Kd.R_drew)); exact HO258.out) (Kd.Q_base ho0) hb); have n2_ := Aside0.mk (Kd.R_elder' (by (with_reducible repeat (first | apply Kd.R_alloc | apply Kd.R_drewN | apply Kd.R_drew)); exact HO262.out) (Kd.Q_base ho0) hb); have n3_ := Aside0.mk (Kd.Q_lower (Kd.Q_new' (Kd.Q_new' (Kd.Q_new' ho0 (Kd.R_lt (by (with_reducible repeat (first | apply Kd.R_alloc | apply Kd.R_drewN | apply Kd.R_drew)); exact HO255.out))) (Kd.R_lt (by (with_reducible repeat (first | apply Kd.R_alloc | apply Kd.R_drewN | apply Kd.R_drew)); exact HO258.out))) (Kd.R_lt (by (with_reducible repeat (first | apply Kd.R_alloc | apply Kd.R_drewN | apply Kd.R_drew)); exact HO262.out))) (below_size (by repeat (first | (with_reducible first | exact HB.out | apply below_alloc | apply pw_below_drewN | apply below_drew1) | exact HB.out)))); have n4_ := Aside0.mk (below_step (by repeat (first | (with_reducible first | exact HB.out | apply below_alloc | apply pw_below_drewN | apply below_drew1) | exact HB.out)) hb); clear HO255; clear HO258; clear HO262; clear HB; have HO255 := n0_; have HO258 := n1_; have HO262 := n2_; have HO265 := n3_; have HB := n4_; clear n0_ n1_ n2_ n3_ n4_; (try clear hb); (try clear hb2); (try clear hk); (try clear hi); (try clear ho0); obtain ⟨Ao44, co44, eo44⟩ := Kd.R_slice HO262.out; subst eo44; obtain ⟨Ao45, co45, eo45, _⟩ := Kd.Q_slice HO265.out; subst eo45) | (go_at_call 17; (with_reducible refine (missiveref09_SameTexts.calls kj12 _ _ t260 _ _ t263 t266 _ ?side1 ?side2 ?side3 ?side4 A37.out).mono ?_); (case side1 => repeat (first | exact (Kd.R_reads' HO262.out).2.2 | (with_reducible refine Kd.C_alloc ?_ _) | (with_reducible refine Kd.C_drewN ?_ _) | (with_reducible refine Kd.C_drew ?_))); (case side2 => exact (Kd.R_reads' HO262.out).2.1); (case side3 => repeat (first | exact (Kd.Q_reads' HO265.out).2.2 | (with_reducible refine Kd.C_alloc ?_ _) | (with_reducible refine Kd.C_drewN ?_ _) | (with_reducible refine Kd.C_drew ?_))); (case side4 => exact (Kd.Q_reads' HO265.out).2.1); rintro e w' ⟨rfl, ⟨nd, rfl⟩⟩))
                  go_ret
                  exact ⟨by first | rfl | (simp [errW_none, errW_some] <;> rfl) | (simp [*, errW_none, errW_some] <;> rfl), by repeat (first | (with_reducible first | exact HB.out | apply below_alloc | apply pw_below_drewN | apply below_drew1) | exact HB.out)⟩
                · replace c34 := Bool.eq_false_iff.mpr c34
                  subst c34
                  have H1 : (some false) = some r := by rw [if_neg (show ¬ (false = true) by decide)] at H; exact H
                  clear H
                  have H := H1
                  clear H1
                  obtain rfl := Option.some.inj H
                  go_wp2_with (first | (go_at_call 18; (with_reducible refine (msgid_Ids.calls kj12 a0 t253 _ A31.out).mono ?_); rintro e w46 ⟨v254, rfl, ho0, hb⟩; have n0_ := Aside0.mk (Kd.R_lower ho0 (below_size (by repeat (first | (with_reducible first | exact HB.out | apply below_alloc | apply pw_below_drewN | apply below_drew1) | exact HB.out)))); have n1_ := Aside0.mk (below_step (by repeat (first | (with_reducible first | exact HB.out | apply below_alloc | apply pw_below_drewN | apply below_drew1) | exact HB.out)) hb); clear HB; have HO255 := n0_; have HB := n1_; clear n0_ n1_; (try clear hb); (try clear hb2); (try clear hk); (try clear hi); (try clear ho0)) | (go_at_call 19; (with_reducible refine (missiveref12_Ids.calls kj12 a0 t256 _ A32.out).mono ?_); rintro e w47 ⟨v257, rfl, ho0, hb⟩; have n0_ := Aside0.mk (Kd.R_elder' (by (with_reducible repeat (first | apply Kd.R_alloc | apply Kd.R_drewN | apply Kd.R_drew)); exact HO255.out) (Kd.R_base ho0) hb); have n1_ := Aside0.mk (Kd.R_lower (Kd.R_new' ho0 (Kd.R_lt (by (with_reducible repeat (first | apply Kd.R_alloc | apply Kd.R_drewN | apply Kd.R_drew)); exact HO255.out))) (below_size (by repeat (first | (with_reducible first | exact HB.out | apply below_alloc | apply pw_below_drewN | apply below_drew1) | exact HB.out)))); have n2_ := Aside0.mk (below_step (by repeat (first | (with_reducible first | exact HB.out | apply below_alloc | apply pw_below_drewN | apply below_drew1) | exact HB.out)) hb); clear HO255; clear HB; have HO255 := n0_; have HO258 := n1_; have HB := n2_; clear n0_ n1_ n2_; (try clear hb); (try clear hb2); (try clear hk); (try clear hi); (try clear ho0); obtain ⟨Ao48, co48, eo48⟩ := Kd.R_slice HO255.out; subst eo48; obtain ⟨Ao49, co49, eo49⟩ := Kd.R_slice HO258.out; subst eo49) | (go_at_call 17; (with_reducible refine (missiveref09_SameTexts.calls kj12 _ _ t253 _ _ t256 false _ ?side1 ?side2 ?side3 ?side4 A33.out).mono ?_); (case side1 => repeat (first | exact (Kd.R_reads' HO255.out).2.2 | (with_reducible refine Kd.C_alloc ?_ _) | (with_reducible refine Kd.C_drewN ?_ _) | (with_reducible refine Kd.C_drew ?_))); (case side2 => exact (Kd.R_reads' HO255.out).2.1); (case side3 => repeat (first | exact (Kd.R_reads' HO258.out).2.2 | (with_reducible refine Kd.C_alloc ?_ _) | (with_reducible refine Kd.C_drewN ?_ _) | (with_reducible refine Kd.C_drew ?_))); (case side4 => exact (Kd.R_reads' HO258.out).2.1); rintro e w' ⟨rfl, ⟨nd, rfl⟩⟩))
                  go_ret
                  exact ⟨by first | rfl | (simp [errW_none, errW_some] <;> rfl) | (simp [*, errW_none, errW_some] <;> rfl), by repeat (first | (with_reducible first | exact HB.out | apply below_alloc | apply pw_below_drewN | apply below_drew1) | exact HB.out)⟩
              · replace c30 := Bool.eq_false_iff.mpr c30
                subst c30
                have H1 : (some false) = some r := by rw [if_neg (show ¬ (false = true) by decide)] at H; exact H
                clear H
                have H := H1
                clear H1
                obtain rfl := Option.some.inj H
                go_wp2
                go_ret
                exact ⟨by first | rfl | (simp [errW_none, errW_some] <;> rfl) | (simp [*, errW_none, errW_some] <;> rfl), by repeat (first | (with_reducible first | exact HB.out | apply below_alloc | apply pw_below_drewN | apply below_drew1) | exact HB.out)⟩

end Go.Proofs.YtlldpjcnkckclaaDoor.PA
