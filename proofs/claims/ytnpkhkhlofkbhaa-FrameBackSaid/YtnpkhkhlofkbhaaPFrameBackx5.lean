-- made by a program of this session (its printer) out of what Lean prints of the given program
import Derived.Test.YtnpkhkhlofkbhaaPFrameBackx0
import Derived.Test.YtnpkhkhlofkbhaaPFrameBackx3
import Derived.Test.YtnpkhkhlofkbhaaPFrameBackx4
namespace Go.Proofs.Ytnpkhkhlofkbhaa.PFrameBack
open Go.RowKit Go.Proofs.YtnpkhkhlofkbhaaW.PrintWords Go.Proofs.YtnpkhkhlofkbhaaW.PrintLast Go.Proofs.YtnpkhkhlofkbhaaW.PrintMore
attribute [local go_sem] max2_int min2_int max_two min_two max_three min_three max_four min_four   -- for this text's walks alone
set_option linter.unusedVariables false
set_option linter.unusedSimpArgs false

/-! ### wristbandlaw12_FrameBack: function 15 -/
def G91 (x_ : S91) : Prop := (fun n_ : Int => (Lit.int .u64 n_).wf = true) x_.f0 ∧ (fun n_ : Int => (Lit.int .u64 n_).wf = true) x_.f1 ∧ (fun n_ : Int => (Lit.int .u64 n_).wf = true) x_.f2 ∧ (fun xs_ : List Int => xs_.length ≤ maxLen ∧ ∀ x_ ∈ xs_, (fun n_ : Int => (Lit.int .u8 n_).wf = true) x_) x_.f3
theorem opens91 : Opens Try.prog 91 k91 G91 := opens_iso (opens_struct Try.underlying91 (opens_cons (opens_int Try.underlying39) rfl (by kernel_rfl) (opens_cons (opens_int Try.underlying39) rfl (by kernel_rfl) (opens_cons (opens_int Try.underlying39) rfl (by kernel_rfl) (opens_one (opens_slice Try.underlying22 (opens_int Try.underlying5) (by kernel_rfl)) rfl (by kernel_rfl))))) (by kernel_rfl)) (fun p_ => (⟨p_.1, p_.2.1, p_.2.2.1, p_.2.2.2⟩ : S91)) (fun _ => rfl)
theorem wristbandlaw12_FrameBack.open0 {H : Type} {enc : TypeId × Value → H} {W : World} {base : Nat} {sp : Nat → Bool} {held : Bool} {cs : Array Value} {x : DataW H} {p : List MemPlace} (hT : DataW.Trod enc Try.prog W base sp held 91 (.agg cs) x p) : ∃ (a0_0 : Int) (a0_1 : Int) (a0_2 : Int) (A0_3 : Option Addr) (c0_3 : Nat) (l0_3 : List Int), Value.agg cs = .agg #[.int .u64 a0_0, .int .u64 a0_1, .int .u64 a0_2, .slice A0_3 l0_3.length c0_3] ∧ (Lit.int .u64 a0_0).wf = true ∧ (Lit.int .u64 a0_1).wf = true ∧ (Lit.int .u64 a0_2).wf = true ∧ l0_3.length ≤ c0_3 ∧ Kd.C (Kd.int .u8) W A0_3 l0_3.length l0_3 ∧ (l0_3.length ≤ maxLen ∧ ∀ x_ ∈ l0_3, (fun n_ : Int => (Lit.int .u8 n_).wf = true) x_) := by
  obtain ⟨fuel, hf⟩ := hT
  obtain ⟨z, hk, hg⟩ := opens91 enc W base sp held fuel _ _ hf
  change k91.K W z cs.toList at hk
  obtain ⟨hg_0, hg_1, hg_2, hg_3⟩ := hg
  obtain ⟨ca1, cb1, ea1, ha1, hb1⟩ := hk
  have q2 : ca1 = [.int .u64 z.f0] := ha1
  obtain ⟨ca3, cb3, ea3, ha3, hb3⟩ := hb1
  have q4 : ca3 = [.int .u64 z.f1] := ha3
  obtain ⟨ca5, cb5, ea5, ha5, hb5⟩ := hb3
  have q6 : ca5 = [.int .u64 z.f2] := ha5
  obtain ⟨A7, c7, q7, hl7, hC7⟩ := hb5
  exact ⟨z.f0, z.f1, z.f2, A7, c7, z.f3, congrArg Value.agg (Array.toList_inj.1 (by rw [ea1, q2, ea3, q4, ea5, q6, q7]; rfl)), hg_0, hg_1, hg_2, ⟨hl7, hC7, hg_3⟩⟩
theorem wristbandlaw12_FrameBack.open1 {H : Type} {enc : TypeId × Value → H} {W : World} {base : Nat} {sp : Nat → Bool} {held : Bool} {cs : Array Value} {x : DataW H} {p : List MemPlace} (hT : DataW.Trod enc Try.prog W base sp held 91 (.agg cs) x p) : ∃ (a1_0 : Int) (a1_1 : Int) (a1_2 : Int) (A1_3 : Option Addr) (c1_3 : Nat) (l1_3 : List Int), Value.agg cs = .agg #[.int .u64 a1_0, .int .u64 a1_1, .int .u64 a1_2, .slice A1_3 l1_3.length c1_3] ∧ (Lit.int .u64 a1_0).wf = true ∧ (Lit.int .u64 a1_1).wf = true ∧ (Lit.int .u64 a1_2).wf = true ∧ l1_3.length ≤ c1_3 ∧ Kd.C (Kd.int .u8) W A1_3 l1_3.length l1_3 ∧ (l1_3.length ≤ maxLen ∧ ∀ x_ ∈ l1_3, (fun n_ : Int => (Lit.int .u8 n_).wf = true) x_) := by
  obtain ⟨fuel, hf⟩ := hT
  obtain ⟨z, hk, hg⟩ := opens91 enc W base sp held fuel _ _ hf
  change k91.K W z cs.toList at hk
  obtain ⟨hg_0, hg_1, hg_2, hg_3⟩ := hg
  obtain ⟨ca1, cb1, ea1, ha1, hb1⟩ := hk
  have q2 : ca1 = [.int .u64 z.f0] := ha1
  obtain ⟨ca3, cb3, ea3, ha3, hb3⟩ := hb1
  have q4 : ca3 = [.int .u64 z.f1] := ha3
  obtain ⟨ca5, cb5, ea5, ha5, hb5⟩ := hb3
  have q6 : ca5 = [.int .u64 z.f2] := ha5
  obtain ⟨A7, c7, q7, hl7, hC7⟩ := hb5
  exact ⟨z.f0, z.f1, z.f2, A7, c7, z.f3, congrArg Value.agg (Array.toList_inj.1 (by rw [ea1, q2, ea3, q4, ea5, q6, q7]; rfl)), hg_0, hg_1, hg_2, ⟨hl7, hC7, hg_3⟩⟩
/-- THE ONE PURE STATEMENT of wristbandlaw12_FrameBack: yours. -/
def wristbandlaw12_FrameBack.Pure : Prop := ∀ (a0_0 : Int) (a0_1 : Int) (a0_2 : Int) (l0_3 : List Int) (a1_0 : Int) (a1_1 : Int) (a1_2 : Int) (l1_3 : List Int) (l2 : List Int) (a3 : Int) (l4 : List Int), (Lit.int .u64 a0_0).wf = true → (Lit.int .u64 a0_1).wf = true → (Lit.int .u64 a0_2).wf = true → l0_3.length ≤ maxLen → (∀ x ∈ l0_3, (fun n_ : Int => (Lit.int .u8 n_).wf = true) x) → (Lit.int .u64 a1_0).wf = true → (Lit.int .u64 a1_1).wf = true → (Lit.int .u64 a1_2).wf = true → l1_3.length ≤ maxLen → (∀ x ∈ l1_3, (fun n_ : Int => (Lit.int .u8 n_).wf = true) x) → l2.length ≤ maxLen → l2.length * 1 ≤ 140737488351232 → (∀ x ∈ l2, (Lit.int .u8 x).wf = true) → (Lit.int .u8 a3).wf = true → l4.length ≤ maxLen → l4.length * 1 ≤ 140737488351232 → (∀ x ∈ l4, (Lit.int .u8 x).wf = true) → ∃ k, wristbandlaw12_FrameBack.f k a0_0 a0_1 a0_2 l0_3 a1_0 a1_1 a1_2 l1_3 l2 a3 l4 = some true
theorem wristbandlaw12_FrameBack.walk (P : wristbandlaw12_FrameBack.Pure) (a0_0 : Int) (a0_1 : Int) (a0_2 : Int) (A0_3 : Option Addr) (c0_3 : Nat) (l0_3 : List Int) (a1_0 : Int) (a1_1 : Int) (a1_2 : Int) (A1_3 : Option Addr) (c1_3 : Nat) (l1_3 : List Int) (a2 : Option Addr) (len2 cap2 : Nat) (z2 : List Int) (a3 : Int) (a4 : Option Addr) (len4 cap4 : Nat) (z4 : List Int) (w : World) (w0_0 : (Lit.int .u64 a0_0).wf = true) (w0_1 : (Lit.int .u64 a0_1).wf = true) (w0_2 : (Lit.int .u64 a0_2).wf = true) (w0_3 : l0_3.length ≤ c0_3 ∧ Kd.C (Kd.int .u8) w A0_3 l0_3.length l0_3 ∧ (l0_3.length ≤ maxLen ∧ ∀ x_ ∈ l0_3, (fun n_ : Int => (Lit.int .u8 n_).wf = true) x_)) (w1_0 : (Lit.int .u64 a1_0).wf = true) (w1_1 : (Lit.int .u64 a1_1).wf = true) (w1_2 : (Lit.int .u64 a1_2).wf = true) (w1_3 : l1_3.length ≤ c1_3 ∧ Kd.C (Kd.int .u8) w A1_3 l1_3.length l1_3 ∧ (l1_3.length ≤ maxLen ∧ ∀ x_ ∈ l1_3, (fun n_ : Int => (Lit.int .u8 n_).wf = true) x_)) (w2 : (a2 = none ∧ len2 = 0 ∧ cap2 = 0 ∧ z2 = []) ∨ ∃ x, a2 = some x ∧ len2 ≤ cap2 ∧ cap2 ≤ maxLen ∧ z2.length = cap2 ∧ (∀ i, i < z2.length → w.cell? (x.add i) = some (.int .u8 (z2.getD i 0))) ∧ ∀ n ∈ z2, (Lit.int .u8 n).wf = true) (y2 : len2 * 1 ≤ 140737488351232) (w3 : (Lit.int .u8 a3).wf = true) (w4 : (a4 = none ∧ len4 = 0 ∧ cap4 = 0 ∧ z4 = []) ∨ ∃ x, a4 = some x ∧ len4 ≤ cap4 ∧ cap4 ≤ maxLen ∧ z4.length = cap4 ∧ (∀ i, i < z4.length → w.cell? (x.add i) = some (.int .u8 (z4.getD i 0))) ∧ ∀ n ∈ z4, (Lit.int .u8 n).wf = true) (y4 : len4 * 1 ≤ 140737488351232) :
   Calls Try.prog 15 #[.agg #[.int .u64 a0_0, .int .u64 a0_1, .int .u64 a0_2, .slice A0_3 l0_3.length c0_3], .agg #[.int .u64 a1_0, .int .u64 a1_1, .int .u64 a1_2, .slice A1_3 l1_3.length c1_3], .slice a2 len2 cap2, .int .u8 a3, .slice a4 len4 cap4] w fun e w' => e = .returned (.bool true) ∧ Below w.heap.size w w' := by
  obtain ⟨hc0_3, hr0_3, hm0_3, hw0_3⟩ := w0_3
  obtain ⟨hc1_3, hr1_3, hm1_3, hw1_3⟩ := w1_3
  obtain ⟨l2, rfl, hr2, hm2, hw2, hc2⟩ := ReadsInt.ofRowC w2
  obtain ⟨l4, rfl, hr4, hm4, hw4, hc4⟩ := ReadsInt.ofRowC w4
  obtain ⟨k, h⟩ := P a0_0 a0_1 a0_2 l0_3 a1_0 a1_1 a1_2 l1_3 l2 a3 l4 w0_0 w0_1 w0_2 hm0_3 hw0_3 w1_0 w1_1 w1_2 hm1_3 hw1_3 hm2 y2 hw2 w3 hm4 y4 hw4
  refine (wristbandlaw12_FrameBack.calls k a0_0 a0_1 a0_2 _ _ l0_3 a1_0 a1_1 a1_2 _ _ l1_3 _ _ l2 a3 _ _ l4 true w hr0_3 hc0_3 hr1_3 hc1_3 (Kd.C_of_reads (d := (0 : Int)) (h1 := fun _ => rfl) hr2) hc2 (Kd.C_of_reads (d := (0 : Int)) (h1 := fun _ => rfl) hr4) hc4 h rfl).mono ?_
  rintro e w' ⟨rfl, hd⟩
  exact ⟨rfl, hd⟩

end Go.Proofs.Ytnpkhkhlofkbhaa.PFrameBack
