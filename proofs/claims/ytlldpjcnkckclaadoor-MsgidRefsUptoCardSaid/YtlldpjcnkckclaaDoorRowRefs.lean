/- The row of MsgidRefs where what is read is of bulk at most 1048576, and its card: the arguments opened, the contract called, the plain part (out of rowgen.py of this session, turned by hand). -/
import Derived.Test.YtlldpjcnkckclaaDoorCards
import Derived.Test.YtlldpjcnkckclaaDoorTie
import Derived.Test.YtlldpjcnkckclaaDoorHandR
import Derived.Test.YtlldpjcnkckclaaDoorPureF
import Derived.WalkKit
import Derived.ProofKit
import Derived.OpenShut
import Derived.ShutString
import Derived.ChangeOld
import Derived.Below
import Derived.SizedLaws
import Derived.SliceStrings
import Derived.Deep.Slices
import Derived.Deep.SlicePairs
import Derived.ChangeSame
import Derived.Lib.SmallJoins
import Derived.Deep.DeepHandedRow
import Derived.Lib.LaidTab
namespace Go.Proofs.YtlldpjcnkckclaaDoor.PA
open Go.RowKit Go.Proofs.YtlldpjcnkckclaaDoorW.PrintWords
theorem MsgidRefs_calls (l : List S37) (m : S37) (A : Option Addr) (c : Nat) (w : World) (hr : Kd.C k37 w A l.length l) (hc : l.length ≤ c) (hl : l.length ≤ 9223372036854775807) (hG : Hand.Laid w)
    (h0 : m.f0.size ≤ 1048576) (h1 : m.f1.size ≤ 1048576) :
    Calls Tryd.prog 5 #[.slice A l.length c, .agg #[.string m.f0, .string m.f1]] w fun e w' => e = .returned (.bool true) ∧ Below w.heap.size w w' := by
  obtain ⟨b, hb, hb2⟩ := few_eq l hl
  cases b with
  | false => exact refs_few l m A c w hr hc hG (l.length + 1) (hb _ (by omega))
  | true =>
    have hS := hb2 rfl
    have hS1 := hS.1
    obtain ⟨k, hk⟩ : ∃ k : Nat, 4000000 ≤ k := ⟨_, Nat.le_refl _⟩
    have hmid : Mid (l ++ [m]) := by
      refine ⟨by rw [List.length_append, List.length_singleton]; omega, fun x hx => ?_⟩
      rcases List.mem_append.1 hx with hx | hx
      · have := hS.2 x hx
        omega
      · obtain rfl := List.mem_singleton.1 hx
        omega
    have hx := getL_size l hS (dl nmR)
    have hy := getL_size l hS (dl nmI)
    exact refs_main l m A c w hr hc hG k (getL l (dl nmR)).1 (getL l (dl nmI)).1 (getL l (dl nmR)).2 (getL l (dl nmI)).2 (idsF l nmR) (idsF l nmI) (refsL l) (refsL (l ++ [m]))
      (hb k (by omega)) (Get_eq l hS nmR k (by omega)) (Get_eq l hS nmI k (by omega)) (Ids_eq _ (by omega) k (by omega)) (Ids_eq _ (by omega) k (by omega))
      (Refs_eq l hS k (by omega)) (Refs_mid _ hmid k (by omega)) (told_of l hS k hk)
      (fun e1 e2 => by
        rw [rL_append l m e1 e2]
        have := rL_le l
        exact SameTexts_refl _ (by omega) k (by omega)) (by omega)
end Go.Proofs.YtlldpjcnkckclaaDoor.PA
namespace Go.Proofs.YtlldpjcnkckclaaDoor.msgidRefs
open Go.ChangeShapes Go.WideShapes Go.ChangeAt Go.RowKit Go.Deep Go.Joins Go.Proofs.YtlldpjcnkckclaaDoorW.PrintWords
open Go.ChangeMaps (open_string shut_string)
set_option linter.unusedVariables false
set_option linter.unusedSimpArgs false
theorem own : ownKnob Tryd.prog.godebug = none := by kernel_rfl
theorem laidOut : laidOutB Tryd.prog = true := by kernel_rfl
theorem gTab : Tryd.prog.globalNamed "missive/digest.constants" = some 0 := by kernel_rfl
theorem gTabType : (Tryd.prog.globals[0]?).map (·.type) = some 63 := by kernel_rfl
theorem cellsArr : Tryd.prog.cellsOf 63 = 64 := by kernel_rfl
theorem cellsEl : Tryd.prog.cellsOf 50 = 1 := by kernel_rfl
theorem table {W : World} (h : laidMetH Tryd.prog Rows.msgidRefsUptoRow.laid W) : Lib.TabIs Tryd.prog W "missive/digest.constants" .u32 Hand.KK :=
  Lib.tabIs_of_head (rest := []) gTab gTabType Tryd.underlying63 Tryd.underlying50 cellsEl cellsArr h
theorem ground {W : World} (h : laidMetH Tryd.prog Rows.msgidRefsUptoRow.laid W) : Hand.Laid W :=
  have hc := fun j (hj : j < 64) => (table h).cell gTab j (by show j < 64; exact hj)
  ⟨World.block_lt_of_cell? W _ (hc 0 (by omega)), hc⟩
def strV : Value → ByteArray
  | .string s => s
  | _ => ByteArray.empty
theorem openFields {H : Type} {enc : TypeId × Value → H} {W : World} {A : Option Addr} {n c : Nat} {d : DataW H} {p : List MemPlace}
    (h : DataW.Trod enc Tryd.prog W 0 (fun _ => true) true 22 (.slice A n c) d p) : ∃ l : List PA.S37, n = l.length ∧ l.length ≤ c ∧ l.length ≤ 9223372036854775807 ∧ Kd.C PA.k37 W A l.length l := by
  obtain ⟨fuel, hf⟩ := h
  rcases open_slice_pairs Tryd.underlying22 Tryd.underlying37 (by kernel_rfl) rfl rfl (by kernel_rfl) (by kernel_rfl) hf with ⟨hcs, _⟩ | ⟨x, len, cap, m, n', V0, V1, D0, D1, P0, P1, hcs, _, hl, hm, hmm, _, hx⟩
  · simp [Value.cells] at hcs
    obtain ⟨rfl, rfl, rfl⟩ := hcs
    exact ⟨[], rfl, Nat.le_refl _, by simp, Kd.C_nil _ _⟩
  · simp [Value.cells] at hcs
    obtain ⟨rfl, rfl, rfl⟩ := hcs
    simp only [if_true] at hmm
    have hs : ∀ i, i < n → V0 i = .string (strV (V0 i)) ∧ V1 i = .string (strV (V1 i)) := by
      intro i hi
      obtain ⟨_, _, h0, h1⟩ := hx i (by omega)
      obtain ⟨s0, e0, _⟩ := DataW.trod_string Tryd.underlying9 h0
      obtain ⟨s1, e1, _⟩ := DataW.trod_string Tryd.underlying9 h1
      simp only [List.cons.injEq, and_true] at e0 e1
      rw [e0, e1]
      exact ⟨rfl, rfl⟩
    have hmx : n ≤ 9223372036854775807 := by unfold maxLen at hm; omega
    have hln : ((List.range n).map fun i => (⟨strV (V0 i), strV (V1 i)⟩ : PA.S37)).length = n := by simp
    refine ⟨(List.range n).map fun i => ⟨strV (V0 i), strV (V1 i)⟩, hln.symm, by rw [hln]; exact hl, by rw [hln]; exact hmx, ⟨rfl, by rw [hln]; exact hmx, fun _ => ⟨x, rfl, fun j q hj => ?_⟩⟩⟩
    have hjn : j < n := by
      have := (List.getElem?_eq_some_iff.1 hj).1
      rwa [hln] at this
    have hq : q = ⟨strV (V0 j), strV (V1 j)⟩ := by
      simp [hjn] at hj
      exact hj.symm
    subst hq
    obtain ⟨h0, h1, _, _⟩ := hx j (by omega)
    refine ⟨_, rfl, PA.k37_mk W _, fun i u hu => ?_⟩
    match i, hu with
    | 0, hu =>
      simp only [List.getElem?_cons_zero, Option.some.injEq] at hu
      rw [← hu, ← (hs j hjn).1]
      exact h0
    | 1, hu =>
      simp only [List.getElem?_cons_succ, List.getElem?_cons_zero, Option.some.injEq] at hu
      rw [← hu, ← (hs j hjn).2]
      exact h1
    | i + 2, hu => simp at hu
set_option maxRecDepth 100000 in
theorem contract (H : Type) (enc : TypeId × Value → H) (W : World) (base : Nat) (args : Array Value) (ds gs : List (DataW H)) (before : List MemPlace)
    (hval : ∀ (j : Nat) t v, Tryd.f5.params[j]? = some t → args[j]? = some v → Value.okWide Tryd.prog W .any base t v)
    (hW : DataW.Whole enc Tryd.prog Tryd.f5.params.toList Rows.msgidRefsSpec.vars false W args.toList ds gs before) (hcond : ∀ k, (Rows.OpenSpec.upto Rows.msgidRefsSpec).cond = some k → k H (ds ++ gs) = true) (hL : laidMetH Tryd.prog Rows.msgidRefsUptoRow.laid W) :
    Calls Tryd.prog 5 args W fun e W' => ∃ v, e = .returned v ∧ Rows.msgidRefsSpec.post enc Tryd.prog Tryd.f5 false true false false W args v W' := by
  have hW' := hW
  obtain ⟨p, q, hA0, hV, rfl, hfz, hnd⟩ := hW
  have hA : DataW.TrodAll enc Tryd.prog W 0 (fun _ => true) true Tryd.f5.params.toList args.toList ds p := hA0
  rw [Tryd.params5] at hA hval
  obtain ⟨v0, vs0, d0, ds0, p0, q0, hargs, rfl, rfl, h0, r0⟩ := trodAll_cons hA
  obtain ⟨v1, vs1, d1, ds1, p1, q1, rfl, rfl, rfl, h1, r1⟩ := trodAll_cons r0
  obtain ⟨rfl, rfl, rfl⟩ := trodAll_nil r1
  obtain rfl : args = #[v0, v1] := by cases args; simp_all
  obtain ⟨rfl, rfl⟩ := trodVars_none hV
  obtain ⟨a0, len0, cap0, rfl⟩ := okWide_slice Tryd.underlying22 (hval 0 22 v0 rfl rfl)
  have k0 := h0
  have lt0 : ∀ x ∈ p0, x.block < W.heap.size := by obtain ⟨m, hm⟩ := k0; exact DataW.trod_lt m _ _ _ hm
  obtain ⟨l0, rfl, hl0, hn0, hr0⟩ := openFields k0
  have k1 := h1
  have lt1 : ∀ x ∈ p1, x.block < W.heap.size := by obtain ⟨m, hm⟩ := k1; exact DataW.trod_lt m _ _ _ hm
  obtain ⟨c0, c1, y0, y1, n, rfl, rfl, rfl, t0, t1⟩ := open_agg2 Tryd.underlying37 (by kernel_rfl) (by kernel_rfl) (hval 1 37 v1 rfl rfl) h1
  obtain ⟨s0, e0, g0, _⟩ := DataW.trod_string Tryd.underlying9 t0
  obtain ⟨s1, e1, g1, _⟩ := DataW.trod_string Tryd.underlying9 t1
  simp only [List.cons.injEq, and_true] at e0 e1
  subst e0 e1
  have hbk := of_decide_eq_true (hcond _ rfl)
  rw [g0, g1] at hbk
  simp [Rows.uptoBulkAll, Rows.uptoBulk] at hbk
  have z0 : s0.size = s0.data.size := rfl
  have z1 : s1.size = s1.data.size := rfl
  clear hA0
  refine (PA.MsgidRefs_calls l0 ⟨s0, s1⟩ _ _ W hr0 hl0 hn0 (ground hL) (by show s0.size ≤ _; omega) (by show s1.size ≤ _; omega)).mono ?_
  rintro e W' ⟨rfl, bel⟩
  exact ⟨_, rfl, _, _, _, [], _, [], hW', trodAll_mk1 (shut_bool Tryd.underlying4 _), (trodAll_cons_mk (Below.trod laidOut (by kernel_rfl) (of_decide_eq_true (by kernel_rfl)) k0 bel lt0) (trodAll_cons_mk (Below.trod laidOut (by kernel_rfl) (of_decide_eq_true (by kernel_rfl)) k1 bel lt1) trodAll_mk0)), rfl, bel.frame _, fun h => by cases h⟩
noncomputable def laidWorld (os : Os) : World :=
  { World.holding Tryd.prog os ⟨#[], #[], []⟩ with heap := (World.holding Tryd.prog os ⟨#[], #[], []⟩).heap.modify 0 fun
      | .cells _ t frozen => .cells (Hand.KK.map (Value.int .u32)).toArray t frozen
      | o => o }
set_option maxRecDepth 100000 in
theorem laid_met (os : Os) : laidMet Tryd.prog Rows.msgidRefsUptoRow.laid ((laidWorld os).forCall (fun _ _ => 0) ⟨#[], #[.slice none 0 0, .agg #[.string ByteArray.empty, .string ByteArray.empty]], []⟩).memory :=
  laidMet_of_run' 80 (by kernel_rfl) (by kernel_rfl)
set_option maxRecDepth 100000 in
theorem reads (os : Os) {H : Type} (enc : TypeId × Value → H) : ∃ places, DataW.whole enc Tryd.prog ((laidWorld os).forCall (fun _ _ => 0) ⟨#[], #[.slice none 0 0, .agg #[.string ByteArray.empty, .string ByteArray.empty]], []⟩).memory Tryd.f5.params.toList Rows.msgidRefsSpec.vars false (#[.slice none 0 0, .agg #[.string ByteArray.empty, .string ByteArray.empty]] : Array Value).toList 8 = some ([.nil, .agg [.lit (.string []), .lit (.string [])]], [], places) :=
  ⟨[], by kernel_rfl⟩
set_option maxRecDepth 100000 in
theorem lifted (os : Os) (started : os.Started) (H : Type) (enc : TypeId × Value → H) (F : Stop.Interp) :
    ReturnsInHanded {} Tryd.checked os 5 .any ((Rows.OpenSpec.upto Rows.msgidRefsSpec).preRow enc Tryd.prog Tryd.f5 Rows.msgidRefsUptoRow.domain false Rows.msgidRefsUptoRow.laid) (((Rows.OpenSpec.upto Rows.msgidRefsSpec).at F).post enc Tryd.prog Tryd.f5 false true false false) := by
  obtain ⟨places, hx⟩ := reads os enc
  refine returnsInHanded_of_row (C := Tryd.checked) (s := Rows.OpenSpec.upto Rows.msgidRefsSpec) own started (by kernel_rfl) Tryd.func5
    (witness_row_at (enc := enc) (C := Tryd.checked) false (laidWorld os) #[.slice none 0 0, .agg #[.string ByteArray.empty, .string ByteArray.empty]] rfl (by kernel_rfl) (by kernel_rfl) (by kernel_rfl)
      (OpenSpec.preRow_of_cond 8 hx (by kernel_rfl) (fun k hk => by cases hk; kernel_rfl) (by kernel_rfl) (laid_met os))) ?_
  intro W base args ds gs before hval hW _ hcond _ hL _ _
  exact contract H enc W base args ds gs before hval hW hcond hL
theorem said : Rows.MsgidRefsUptoSaid :=
  OpenClaim.holds_of_cond 5 Tryd.f5 rfl rfl rfl rfl rfl rfl rfl ⟨rfl, rfl, rfl, rfl, rfl⟩ rfl rfl rfl rfl rfl (by kernel_rfl) Tryd.func5 (by kernel_rfl)
    (of_decide_eq_true (by kernel_rfl)) (by unfold Func.isWrapper; first | (rw [if_pos (by decide +kernel)]; kernel_rfl) | (rw [if_neg (by decide +kernel)]; exact ⟨rfl, rfl⟩))
    (fun os started H enc _ F => by rw [OpenClaim.pre_eq_preRow]; exact lifted os started H enc F)
theorem plain (f : FuncId) (fn : Func) (hf : Tryd.pinned.checked.prog.funcNamed "missive/missivelaw12.MsgidRefs" = some f) (hfn : Tryd.pinned.checked.prog.funcs[f]? = some fn) :
    false = Tryd.pinned.checked.prog.looks [] ∧ ∀ (j : Nat) t, fn.params[j]? = some t → Tryd.pinned.checked.prog.wantsStandIn t = false := by
  obtain rfl : f = 5 := Option.some.inj ((show Tryd.prog.funcNamed "missive/missivelaw12.MsgidRefs" = some 5 by kernel_rfl).symm.trans hf) |>.symm
  obtain rfl : fn = Tryd.f5 := (Option.some.inj (Tryd.func5.symm.trans hfn)).symm
  refine ⟨by kernel_rfl, fun j t ht => ?_⟩
  rw [Tryd.params5] at ht
  have hm := Array.mem_of_getElem? ht
  simp only [List.mem_toArray, List.mem_cons, List.not_mem_nil, or_false] at hm
  rcases hm with rfl | rfl
  · exact (show Tryd.prog.wantsStandIn 22 = false by kernel_rfl)
  · exact (show Tryd.prog.wantsStandIn 37 = false by kernel_rfl)
theorem card : Rows.MsgidRefsUptoCardSaid :=
  Claim7.holds_tied_plain_at .later [] _ _ _ _ said (fun _ h => by cases h) (by kernel_rfl) (fun _ h => by cases h) msgidRefsUpto_row_tie rfl ⟨rfl, rfl⟩ (by kernel_rfl) rfl plain (by kernel_rfl)
#print axioms card
end Go.Proofs.YtlldpjcnkckclaaDoor.msgidRefs
namespace Go.Proofs.YtlldpjcnkckclaaDoor
/-- The statement, under a short name, for the claim. -/
theorem msgidRefs_holds : Rows.MsgidRefsUptoCardSaid := msgidRefs.card
end Go.Proofs.YtlldpjcnkckclaaDoor
