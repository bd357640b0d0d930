/- The examples of the documentation (small), computed; more fuel gives the same answer. -/
import Derived.Test.YtlldpjcnkckclaaDoorPAx3
import Derived.Test.YtlldpjcnkckclaaDoorHandU
namespace Go.Proofs.YtlldpjcnkckclaaDoor.PA
open Go.RowKit Go.Proofs.YtlldpjcnkckclaaDoorW.PrintWords Go.Proofs.YtlldpjcnkckclaaDoorW.PrintLast Go.Proofs.YtlldpjcnkckclaaDoorW.PrintMore
set_option maxRecDepth 100000

theorem up {α : Type} {f : Nat → Option α} (h : ∀ k, LeO (f k) (f (k + 1))) {k : Nat} {r : α} (hk : f k = some r) : ∀ m, k ≤ m → f m = some r := by
  intro m hm
  induction hm with
  | refl => exact hk
  | step _ ih => exact h _ r ih

theorem sum_abc : digest_Sum.f (⟨#[97, 98, 99]⟩ : ByteArray) = some Hand.Abc.sum := by
  unfold digest_Sum.f
  rw [if_pos (show (⟨#[97, 98, 99]⟩ : ByteArray).size = 3 from rfl)]
  exact congrArg some Hand.Abc.is

theorem small_60 : missivelaw12_small.f 60 = some true := by
  unfold missivelaw12_small.f
  simp only [sum_abc]
  kernel_rfl
theorem small_true (k : Nat) (h : 60 ≤ k) : missivelaw12_small.f k = some true := up (f := fun k => missivelaw12_small.f k) (fun k => missivelaw12_small.mono k) small_60 k h
end Go.Proofs.YtlldpjcnkckclaaDoor.PA
