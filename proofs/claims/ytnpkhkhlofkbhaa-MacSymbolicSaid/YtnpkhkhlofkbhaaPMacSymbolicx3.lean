-- made by a program of this session (its printer) out of what Lean prints of the given program
import Derived.Test.YtnpkhkhlofkbhaaPMacSymbolicx0
import Derived.Test.YtnpkhkhlofkbhaaPMacSymbolicx1
import Derived.Test.YtnpkhkhlofkbhaaPMacSymbolicx2
namespace Go.Proofs.Ytnpkhkhlofkbhaa.PMacSymbolic
open Go.RowKit Go.Proofs.YtnpkhkhlofkbhaaW.PrintWords Go.Proofs.YtnpkhkhlofkbhaaW.PrintLast Go.Proofs.YtnpkhkhlofkbhaaW.PrintMore
attribute [local go_sem] max2_int min2_int max_two min_two max_three min_three max_four min_four   -- for this text's walks alone
set_option linter.unusedVariables false
set_option linter.unusedSimpArgs false

set_option linter.unusedSectionVars false
variable [Inhabited Tb]
/-- A state of type 170 at block g of W; what its slices lead to came in by w0. -/
def IsS170 (w0 W : World) (g : Nat) (f0 : Int) (f1 : Int) (f2 : Int) (f3 : Int) (f4 : Int) (f5 : Int) (f6 : Int) (f7 : Int) : Prop := W.heap[g]? = some (.cells #[.int .u32 f0, .int .u32 f1, .int .u32 f2, .int .u32 f3, .int .u32 f4, .int .u32 f5, .int .u32 f6, .int .u32 f7] 170 (0, 0)) ∧ w0.heap.size ≤ g
theorem IsS170.grown {w0 W : World} {g : Nat} {f0 : Int} {f1 : Int} {f2 : Int} {f3 : Int} {f4 : Int} {f5 : Int} {f6 : Int} {f7 : Int} {W1 : World} {row : Option Nat} (h : IsS170 w0 W g f0 f1 f2 f3 f4 f5 f6 f7) (hw : W.grownBy W1 row) (hne : some g ≠ row) : IsS170 w0 W1 g f0 f1 f2 f3 f4 f5 f6 f7 := by
  obtain ⟨hb, hg⟩ := h
  exact ⟨blk_grown hb hw hne, hg⟩
theorem IsS170.own_neN {w0 W : World} {g : Nat} {f0 : Int} {f1 : Int} {f2 : Int} {f3 : Int} {f4 : Int} {f5 : Int} {f6 : Int} {f7 : Int} {α : Type} {d : Kd α} {e : Nat} {base : Nat} {ok : Nat → Prop} {v : Value} {xs : List α} (h : IsS170 w0 W g f0 f1 f2 f3 f4 f5 f6 f7) (ho : Kd.N d e W base ok v xs) (ht : e ≠ 170) : some g ≠ v.ownBlock := by
  obtain ⟨hb, hg⟩ := h
  exact Kd.N_ne ho hb ht
theorem IsS170.fresh {w0 W : World} {g : Nat} {f0 : Int} {f1 : Int} {f2 : Int} {f3 : Int} {f4 : Int} {f5 : Int} {f6 : Int} {f7 : Int} (h : IsS170 w0 W g f0 f1 f2 f3 f4 f5 f6 f7) : ∀ k, W.heap.size ≤ k → k ≠ g := by
  obtain ⟨hb, hg⟩ := h
  exact Kd.freshB hb
theorem IsS170.kept {w0 W : World} {g : Nat} {f0 : Int} {f1 : Int} {f2 : Int} {f3 : Int} {f4 : Int} {f5 : Int} {f6 : Int} {f7 : Int} {W1 : World} {S : Nat → Prop} (h : IsS170 w0 W g f0 f1 f2 f3 f4 f5 f6 f7) (hk : Kept W W1 S) (hne : ¬ S g) : IsS170 w0 W1 g f0 f1 f2 f3 f4 f5 f6 f7 := by
  obtain ⟨hb, hg⟩ := h
  exact ⟨blk_kept hb hk hne, hg⟩
theorem IsS170.below {w0 W : World} {g : Nat} {f0 : Int} {f1 : Int} {f2 : Int} {f3 : Int} {f4 : Int} {f5 : Int} {f6 : Int} {f7 : Int} {W1 : World} (h : IsS170 w0 W g f0 f1 f2 f3 f4 f5 f6 f7) (hw : Below W.heap.size W W1) : IsS170 w0 W1 g f0 f1 f2 f3 f4 f5 f6 f7 := h.grown (grown_of_below hw none) (by simp)
theorem IsS170.alloc {w0 W : World} {g : Nat} {f0 : Int} {f1 : Int} {f2 : Int} {f3 : Int} {f4 : Int} {f5 : Int} {f6 : Int} {f7 : Int} (h : IsS170 w0 W g f0 f1 f2 f3 f4 f5 f6 f7) (o : Obj) : IsS170 w0 (W.alloc o) g f0 f1 f2 f3 f4 f5 f6 f7 := h.below (below_alloc (Below.refl _ _) o)
theorem IsS170.drewN {w0 W : World} {g : Nat} {f0 : Int} {f1 : Int} {f2 : Int} {f3 : Int} {f4 : Int} {f5 : Int} {f6 : Int} {f7 : Int} (h : IsS170 w0 W g f0 f1 f2 f3 f4 f5 f6 f7) (m : Nat) : IsS170 w0 (W.drewN m) g f0 f1 f2 f3 f4 f5 f6 f7 := h
theorem IsS170.drew {w0 W : World} {g : Nat} {f0 : Int} {f1 : Int} {f2 : Int} {f3 : Int} {f4 : Int} {f5 : Int} {f6 : Int} {f7 : Int} (h : IsS170 w0 W g f0 f1 f2 f3 f4 f5 f6 f7) : IsS170 w0 W.drew g f0 f1 f2 f3 f4 f5 f6 f7 := h
theorem IsS170.at_ {w0 W : World} {g : Nat} {f0 : Int} {f1 : Int} {f2 : Int} {f3 : Int} {f4 : Int} {f5 : Int} {f6 : Int} {f7 : Int} {w' : World} {m : Nat} (hq : W.drewN m = w') (h : IsS170 w0 W g f0 f1 f2 f3 f4 f5 f6 f7) : IsS170 w0 w' g f0 f1 f2 f3 f4 f5 f6 f7 := by subst hq; exact IsS170.drewN h m
theorem IsS170.apart {w0 W : World} {g : Nat} {f0 : Int} {f1 : Int} {f2 : Int} {f3 : Int} {f4 : Int} {f5 : Int} {f6 : Int} {f7 : Int} {α : Type} {d : Kd α} {e : Nat} {base : Nat} {ok : Nat → Prop} {v : Value} {xs : List α} (h : IsS170 w0 W g f0 f1 f2 f3 f4 f5 f6 f7) (ho : d.R e W base ok v xs) (ht : ∀ q, q ∈ e :: d.E → q ≠ 170) : d.R e W base (fun k => ok k ∧ k ≠ g) v xs := by
  obtain ⟨hb, hg⟩ := h
  exact Kd.R_types ho hb ht
theorem IsS170.own_ne {w0 W : World} {g : Nat} {f0 : Int} {f1 : Int} {f2 : Int} {f3 : Int} {f4 : Int} {f5 : Int} {f6 : Int} {f7 : Int} {α : Type} {d : Kd α} {e : Nat} {base : Nat} {ok : Nat → Prop} {v : Value} {xs : List α} (h : IsS170 w0 W g f0 f1 f2 f3 f4 f5 f6 f7) (ho : d.R e W base ok v xs) (ht : e ≠ 170) : some g ≠ v.ownBlock := by
  obtain ⟨hb, hg⟩ := h
  exact Kd.R_ne ho hb ht
theorem IsS170.apartQ {w0 W : World} {g : Nat} {f0 : Int} {f1 : Int} {f2 : Int} {f3 : Int} {f4 : Int} {f5 : Int} {f6 : Int} {f7 : Int} {α : Type} {d : Kd α} {e : Nat} {base : Nat} {ok : Nat → Prop} {v : Value} {xs : List α} (h : IsS170 w0 W g f0 f1 f2 f3 f4 f5 f6 f7) (ho : d.Q e W base ok v xs) (ht : ∀ q, q ∈ e :: d.E → q ≠ 170) : d.Q e W base (fun k => ok k ∧ k ≠ g) v xs := by
  obtain ⟨hb, hg⟩ := h
  exact Kd.Q_types ho hb ht
theorem IsS170.own_neQ {w0 W : World} {g : Nat} {f0 : Int} {f1 : Int} {f2 : Int} {f3 : Int} {f4 : Int} {f5 : Int} {f6 : Int} {f7 : Int} {α : Type} {d : Kd α} {e : Nat} {base : Nat} {ok : Nat → Prop} {v : Value} {xs : List α} (h : IsS170 w0 W g f0 f1 f2 f3 f4 f5 f6 f7) (ho : d.Q e W base ok v xs) (ht : e ≠ 170) : some g ≠ v.ownBlock := by
  obtain ⟨hb, hg⟩ := h
  exact Kd.Q_ne ho hb ht
theorem IsS170.apartS {w0 W : World} {g : Nat} {f0 : Int} {f1 : Int} {f2 : Int} {f3 : Int} {f4 : Int} {f5 : Int} {f6 : Int} {f7 : Int} {α : Type} {d : Kd α} {e : Nat} {base : Nat} {ok : Nat → Prop} {v : Value} {xs : List α} (h : IsS170 w0 W g f0 f1 f2 f3 f4 f5 f6 f7) (ho : d.S e W base ok v xs) (ht : ∀ q, q ∈ e :: d.E → q ≠ 170) : d.S e W base (fun k => ok k ∧ k ≠ g) v xs := by
  obtain ⟨hb, hg⟩ := h
  exact Kd.S_types ho hb ht
theorem IsS170.own_neS {w0 W : World} {g : Nat} {f0 : Int} {f1 : Int} {f2 : Int} {f3 : Int} {f4 : Int} {f5 : Int} {f6 : Int} {f7 : Int} {α : Type} {d : Kd α} {e : Nat} {base : Nat} {ok : Nat → Prop} {v : Value} {xs : List α} (h : IsS170 w0 W g f0 f1 f2 f3 f4 f5 f6 f7) (ho : d.S e W base ok v xs) (ht : e ≠ 170) : some g ≠ v.ownBlock := by
  obtain ⟨hb, hg⟩ := h
  exact Kd.S_ne ho hb ht
theorem IsS170.lt {w0 W : World} {g : Nat} {f0 : Int} {f1 : Int} {f2 : Int} {f3 : Int} {f4 : Int} {f5 : Int} {f6 : Int} {f7 : Int} (h : IsS170 w0 W g f0 f1 f2 f3 f4 f5 f6 f7) : g < W.heap.size := by
  obtain ⟨hb, hg⟩ := h
  exact blk_lt hb
theorem IsS170.ge {w0 W : World} {g : Nat} {f0 : Int} {f1 : Int} {f2 : Int} {f3 : Int} {f4 : Int} {f5 : Int} {f6 : Int} {f7 : Int} (h : IsS170 w0 W g f0 f1 f2 f3 f4 f5 f6 f7) : w0.heap.size ≤ g := by
  obtain ⟨hb, hg⟩ := h
  exact hg
theorem IsS170.ne_blk {w0 W : World} {g : Nat} {f0 : Int} {f1 : Int} {f2 : Int} {f3 : Int} {f4 : Int} {f5 : Int} {f6 : Int} {f7 : Int} {a : Nat} {cs : Array Value} {t : TypeId} {fr : Nat × Nat} (h : IsS170 w0 W g f0 f1 f2 f3 f4 f5 f6 f7) (hb2 : W.heap[a]? = some (.cells cs t fr)) (ht : t ≠ 170) : g ≠ a := by
  obtain ⟨hb, hg⟩ := h
  rintro rfl
  rw [hb] at hb2
  injection hb2 with hb2
  injection hb2 with _ ht2
  exact ht ht2.symm
theorem IsS170.far {w0 W : World} {g : Nat} {f0 : Int} {f1 : Int} {f2 : Int} {f3 : Int} {f4 : Int} {f5 : Int} {f6 : Int} {f7 : Int} {p : Addr} (h : IsS170 w0 W g f0 f1 f2 f3 f4 f5 f6 f7) (hne : g ≠ p.block) (u : Value) : IsS170 w0 (W.setCell p u) g f0 f1 f2 f3 f4 f5 f6 f7 := by
  obtain ⟨hb, hg⟩ := h
  exact ⟨blk_far hb hne u, hg⟩
theorem cellS170_0 {W : World} {g : Nat} {f0 : Int} {f1 : Int} {f2 : Int} {f3 : Int} {f4 : Int} {f5 : Int} {f6 : Int} {f7 : Int} (h : W.heap[g]? = some (.cells #[.int .u32 f0, .int .u32 f1, .int .u32 f2, .int .u32 f3, .int .u32 f4, .int .u32 f5, .int .u32 f6, .int .u32 f7] 170 (0, 0))) : W.cell? ⟨g, 0, none⟩ = some (.int .u32 f0) := (blk_cell h 0).trans rfl
theorem IsS170.set_0 {w0 W : World} {g : Nat} {f0 : Int} {f1 : Int} {f2 : Int} {f3 : Int} {f4 : Int} {f5 : Int} {f6 : Int} {f7 : Int} (h : IsS170 w0 W g f0 f1 f2 f3 f4 f5 f6 f7) (x : Int) : IsS170 w0 (W.setCell ⟨g, 0, none⟩ (.int .u32 x)) g x f1 f2 f3 f4 f5 f6 f7 := by
  obtain ⟨hb, hg⟩ := h
  exact ⟨by simpa using blk_set hb 0 (.int .u32 x), hg⟩
theorem cellS170_1 {W : World} {g : Nat} {f0 : Int} {f1 : Int} {f2 : Int} {f3 : Int} {f4 : Int} {f5 : Int} {f6 : Int} {f7 : Int} (h : W.heap[g]? = some (.cells #[.int .u32 f0, .int .u32 f1, .int .u32 f2, .int .u32 f3, .int .u32 f4, .int .u32 f5, .int .u32 f6, .int .u32 f7] 170 (0, 0))) : W.cell? ⟨g, 1, none⟩ = some (.int .u32 f1) := (blk_cell h 1).trans rfl
theorem IsS170.set_1 {w0 W : World} {g : Nat} {f0 : Int} {f1 : Int} {f2 : Int} {f3 : Int} {f4 : Int} {f5 : Int} {f6 : Int} {f7 : Int} (h : IsS170 w0 W g f0 f1 f2 f3 f4 f5 f6 f7) (x : Int) : IsS170 w0 (W.setCell ⟨g, 1, none⟩ (.int .u32 x)) g f0 x f2 f3 f4 f5 f6 f7 := by
  obtain ⟨hb, hg⟩ := h
  exact ⟨by simpa using blk_set hb 1 (.int .u32 x), hg⟩
theorem cellS170_2 {W : World} {g : Nat} {f0 : Int} {f1 : Int} {f2 : Int} {f3 : Int} {f4 : Int} {f5 : Int} {f6 : Int} {f7 : Int} (h : W.heap[g]? = some (.cells #[.int .u32 f0, .int .u32 f1, .int .u32 f2, .int .u32 f3, .int .u32 f4, .int .u32 f5, .int .u32 f6, .int .u32 f7] 170 (0, 0))) : W.cell? ⟨g, 2, none⟩ = some (.int .u32 f2) := (blk_cell h 2).trans rfl
theorem IsS170.set_2 {w0 W : World} {g : Nat} {f0 : Int} {f1 : Int} {f2 : Int} {f3 : Int} {f4 : Int} {f5 : Int} {f6 : Int} {f7 : Int} (h : IsS170 w0 W g f0 f1 f2 f3 f4 f5 f6 f7) (x : Int) : IsS170 w0 (W.setCell ⟨g, 2, none⟩ (.int .u32 x)) g f0 f1 x f3 f4 f5 f6 f7 := by
  obtain ⟨hb, hg⟩ := h
  exact ⟨by simpa using blk_set hb 2 (.int .u32 x), hg⟩
theorem cellS170_3 {W : World} {g : Nat} {f0 : Int} {f1 : Int} {f2 : Int} {f3 : Int} {f4 : Int} {f5 : Int} {f6 : Int} {f7 : Int} (h : W.heap[g]? = some (.cells #[.int .u32 f0, .int .u32 f1, .int .u32 f2, .int .u32 f3, .int .u32 f4, .int .u32 f5, .int .u32 f6, .int .u32 f7] 170 (0, 0))) : W.cell? ⟨g, 3, none⟩ = some (.int .u32 f3) := (blk_cell h 3).trans rfl
theorem IsS170.set_3 {w0 W : World} {g : Nat} {f0 : Int} {f1 : Int} {f2 : Int} {f3 : Int} {f4 : Int} {f5 : Int} {f6 : Int} {f7 : Int} (h : IsS170 w0 W g f0 f1 f2 f3 f4 f5 f6 f7) (x : Int) : IsS170 w0 (W.setCell ⟨g, 3, none⟩ (.int .u32 x)) g f0 f1 f2 x f4 f5 f6 f7 := by
  obtain ⟨hb, hg⟩ := h
  exact ⟨by simpa using blk_set hb 3 (.int .u32 x), hg⟩
theorem cellS170_4 {W : World} {g : Nat} {f0 : Int} {f1 : Int} {f2 : Int} {f3 : Int} {f4 : Int} {f5 : Int} {f6 : Int} {f7 : Int} (h : W.heap[g]? = some (.cells #[.int .u32 f0, .int .u32 f1, .int .u32 f2, .int .u32 f3, .int .u32 f4, .int .u32 f5, .int .u32 f6, .int .u32 f7] 170 (0, 0))) : W.cell? ⟨g, 4, none⟩ = some (.int .u32 f4) := (blk_cell h 4).trans rfl
theorem IsS170.set_4 {w0 W : World} {g : Nat} {f0 : Int} {f1 : Int} {f2 : Int} {f3 : Int} {f4 : Int} {f5 : Int} {f6 : Int} {f7 : Int} (h : IsS170 w0 W g f0 f1 f2 f3 f4 f5 f6 f7) (x : Int) : IsS170 w0 (W.setCell ⟨g, 4, none⟩ (.int .u32 x)) g f0 f1 f2 f3 x f5 f6 f7 := by
  obtain ⟨hb, hg⟩ := h
  exact ⟨by simpa using blk_set hb 4 (.int .u32 x), hg⟩
theorem cellS170_5 {W : World} {g : Nat} {f0 : Int} {f1 : Int} {f2 : Int} {f3 : Int} {f4 : Int} {f5 : Int} {f6 : Int} {f7 : Int} (h : W.heap[g]? = some (.cells #[.int .u32 f0, .int .u32 f1, .int .u32 f2, .int .u32 f3, .int .u32 f4, .int .u32 f5, .int .u32 f6, .int .u32 f7] 170 (0, 0))) : W.cell? ⟨g, 5, none⟩ = some (.int .u32 f5) := (blk_cell h 5).trans rfl
theorem IsS170.set_5 {w0 W : World} {g : Nat} {f0 : Int} {f1 : Int} {f2 : Int} {f3 : Int} {f4 : Int} {f5 : Int} {f6 : Int} {f7 : Int} (h : IsS170 w0 W g f0 f1 f2 f3 f4 f5 f6 f7) (x : Int) : IsS170 w0 (W.setCell ⟨g, 5, none⟩ (.int .u32 x)) g f0 f1 f2 f3 f4 x f6 f7 := by
  obtain ⟨hb, hg⟩ := h
  exact ⟨by simpa using blk_set hb 5 (.int .u32 x), hg⟩
theorem cellS170_6 {W : World} {g : Nat} {f0 : Int} {f1 : Int} {f2 : Int} {f3 : Int} {f4 : Int} {f5 : Int} {f6 : Int} {f7 : Int} (h : W.heap[g]? = some (.cells #[.int .u32 f0, .int .u32 f1, .int .u32 f2, .int .u32 f3, .int .u32 f4, .int .u32 f5, .int .u32 f6, .int .u32 f7] 170 (0, 0))) : W.cell? ⟨g, 6, none⟩ = some (.int .u32 f6) := (blk_cell h 6).trans rfl
theorem IsS170.set_6 {w0 W : World} {g : Nat} {f0 : Int} {f1 : Int} {f2 : Int} {f3 : Int} {f4 : Int} {f5 : Int} {f6 : Int} {f7 : Int} (h : IsS170 w0 W g f0 f1 f2 f3 f4 f5 f6 f7) (x : Int) : IsS170 w0 (W.setCell ⟨g, 6, none⟩ (.int .u32 x)) g f0 f1 f2 f3 f4 f5 x f7 := by
  obtain ⟨hb, hg⟩ := h
  exact ⟨by simpa using blk_set hb 6 (.int .u32 x), hg⟩
theorem cellS170_7 {W : World} {g : Nat} {f0 : Int} {f1 : Int} {f2 : Int} {f3 : Int} {f4 : Int} {f5 : Int} {f6 : Int} {f7 : Int} (h : W.heap[g]? = some (.cells #[.int .u32 f0, .int .u32 f1, .int .u32 f2, .int .u32 f3, .int .u32 f4, .int .u32 f5, .int .u32 f6, .int .u32 f7] 170 (0, 0))) : W.cell? ⟨g, 7, none⟩ = some (.int .u32 f7) := (blk_cell h 7).trans rfl
theorem IsS170.set_7 {w0 W : World} {g : Nat} {f0 : Int} {f1 : Int} {f2 : Int} {f3 : Int} {f4 : Int} {f5 : Int} {f6 : Int} {f7 : Int} (h : IsS170 w0 W g f0 f1 f2 f3 f4 f5 f6 f7) (x : Int) : IsS170 w0 (W.setCell ⟨g, 7, none⟩ (.int .u32 x)) g f0 f1 f2 f3 f4 f5 f6 x := by
  obtain ⟨hb, hg⟩ := h
  exact ⟨by simpa using blk_set hb 7 (.int .u32 x), hg⟩
theorem IsS170.new (w0 W : World) (f0 : Int) (f1 : Int) (f2 : Int) (f3 : Int) (f4 : Int) (f5 : Int) (f6 : Int) (f7 : Int) (hB : Below w0.heap.size w0 W) : IsS170 w0 (W.alloc (.cells #[.int .u32 f0, .int .u32 f1, .int .u32 f2, .int .u32 f3, .int .u32 f4, .int .u32 f5, .int .u32 f6, .int .u32 f7] 170)) W.heap.size f0 f1 f2 f3 f4 f5 f6 f7 := ⟨by simpa using heap_alloc_new W _, hB.size⟩

/-! ### sha_Block: function 144 -/
/-- The cells of a state. -/
def st8 (a b c d e f g h : Int) : Array Value := #[.int .u32 a, .int .u32 b, .int .u32 c, .int .u32 d, .int .u32 e, .int .u32 f, .int .u32 g, .int .u32 h]
def shaK : List Int := (default : Tb).k
def shaF : List Int := (default : Tb).f
theorem shaK_len : shaK.length = 64 := (default : Tb).lk
theorem shaF_len : shaF.length = 8 := (default : Tb).lf
theorem shaF_num : ∀ x ∈ shaF, 0 ≤ x ∧ x < 4294967296 := (default : Tb).wf
theorem laid_cell {w : World} {g n : Nat} {K : List Int} (h : Kd.C (Kd.int .u32) w (some ⟨g, 0, none⟩) n K) (j : Nat) (hj : j < n) : w.cell? ⟨g, j, none⟩ = some (.int .u32 (K[j]?.getD 0)) := by
  obtain ⟨ad, e, hx⟩ := Kd.at_int h (j : Int) (by omega) (by omega)
  cases e
  rw [add_plain] at hx
  simpa [rd] using hx
def sb.ch (e f g : Int) : Int := Go.bits .xor .u32 (Go.bits .and .u32 e f) (Go.bits .and .u32 (Go.bits .xor .u32 IntKind.u32.max e) g)
def sb.mj (a b c : Int) : Int := Go.bits .xor .u32 (Go.bits .xor .u32 (Go.bits .and .u32 a b) (Go.bits .and .u32 a c)) (Go.bits .and .u32 b c)
def sb.x (ws : List Int) (i : Nat) (e f g h te : Int) : Int := h + te + sb.ch e f g + shaK[i]?.getD 0 + rd ws (i : Int)
/-- The rounds of a block. -/
def sb.l0 : Nat → List Int → Nat → Int → Int → Int → Int → Int → Int → Int → Int → Option (List Int)
  | 0, _, _, _, _, _, _, _, _, _, _ => none
  | k + 1, ws, i, a, b, c, d, e, f, g, h => if i < ws.length then (if i < 64 then ((sha_turned.f e 6 11 25).bind fun te => ((sha_turned.f a 2 13 22).bind fun ta => sb.l0 k ws (i + 1) ((sb.x ws i e f g h te + (ta + sb.mj a b c)) % 4294967296) a b c ((d + sb.x ws i e f g h te) % 4294967296) e f g)) else none) else some [a, b, c, d, e, f, g, h]
theorem grown_set {w0 w : World} {g i : Nat} {v : Value} (h : w0.grownBy w (some g)) : w0.grownBy (w.setCell ⟨g, i, none⟩ v) (some g) :=
  ⟨h.os, h.tape, h.output, Nat.le_trans h.size (Below.setCell (B := 0) (p := ⟨g, i, none⟩) (Below.refl 0 w) (Nat.zero_le _) v).size, fun k hk hne => (Below.heap_setCell w ⟨g, i, none⟩ v k (fun e => hne (by rw [e]))).trans (h.block k hk hne)⟩
theorem grown_drewN {w0 w : World} {r : Option Nat} (h : w0.grownBy w r) (n : Nat) : w0.grownBy (w.drewN n) r := ⟨h.os, h.tape, h.output, h.size, h.block⟩
theorem grown_drew {w0 w : World} {r : Option Nat} (h : w0.grownBy w r) : w0.grownBy w.drew r := ⟨h.os, h.tape, h.output, h.size, h.block⟩
/-- copy within a region that draws, into a block of the call's own: nothing else is turned. -/
theorem step_copy_keep {P : Program} {ops : Array Oper} {o : Oper} {a : Act} {w : World} {K : Act → World → Prop} {Q : Exit → Act → World → Prop} {E : Prop} (hgd : o.guard = none) (d s : Operand) (dT sT : TypeId)
    (ho : o.op = .call { callee := .builtin .copy, args := #[d, s], argTypes := #[dT, sT] }) (elem : TypeId) (hu : P.underlying dT = some (.slice elem)) (hsz : (P.info? elem).map (·.size) = some 1)
    (g off : Nat) (ad : Addr) (dLen dCap sLen sCap : Nat) (hd : a.eval d = .slice (some ⟨g, off, none⟩) dLen dCap) (hs : a.eval s = .slice (some ad) sLen sCap)
    (cur : List Value) (t : TypeId) (hg : w.heap[g]? = some (.cells cur.toArray t (0, 0))) (cs : List Value) (hn : cs.length = Nat.min sLen dLen)
    (hpos : ∀ j v, cs[j]? = some v → w.cell? (ad.add j) = some v)
    (hfit : off + cs.length ≤ cur.length) (h1 : ∀ v ∈ cs, v.oneCell' = true) (w0 : World) (hb : w0.grownBy w (some g))
    (h : ∀ w', RowKit.Hid (w'.heap[g]? = some (.cells (splice cur off cs).toArray t (0, 0))) → w0.grownBy w' (some g) → K (a.put o.dst (goInt cs.length)) w') :
    if Region.wanted o (yielded ops a.tmps) = true then Oper.wp P o a w K Q else E := by
  have hw : Region.wanted o (yielded ops a.tmps) = true := by simp [Region.wanted, hgd]
  rw [if_pos hw]
  have hrun := run_copy_row (P := P) w dT sT o.type elem g off dLen dCap ad sLen sCap cur.toArray t cs hu hsz hg hn hpos (by simpa using hfit) h1
  unfold Oper.wp
  simp [execOp, ho, resolve, invoke, builtin, hd, hs, hrun, Result.andThen]
  exact h _ (show _ = _ by simpa [splice] using setRow_heap w g _ _ t _ hg) ⟨hb.os, hb.tape, hb.output, by simpa [World.setRow] using hb.size, fun k hk hne => (setRow_other w g k _ (fun e => hne (by rw [e]))).trans (hb.block k hk hne)⟩
theorem eight {a b c d e f g h : Int} {i : Nat} (hi : i < 8) : (st8 a b c d e f g h)[i]? = some (.int .u32 ([a, b, c, d, e, f, g, h][i]?.getD 0)) := by
  match i, hi with
  | 0, _ => rfl
  | 1, _ => rfl
  | 2, _ => rfl
  | 3, _ => rfl
  | 4, _ => rfl
  | 5, _ => rfl
  | 6, _ => rfl
  | 7, _ => rfl
theorem seven {w : World} {g : Nat} {a b c d e f gg h : Int} (hh : w.heap[g]? = some (.cells (st8 a b c d e f gg h) 170 (0, 0))) : ∀ (j : Nat) (v : Value), [Value.int .u32 a, .int .u32 b, .int .u32 c, .int .u32 d, .int .u32 e, .int .u32 f, .int .u32 gg][j]? = some v → w.cell? ((⟨g, 0, none⟩ : Addr).add j) = some v := by
  intro j v hv
  rw [add_plain, blk_cell hh j]
  match j, hv with
  | 0, hv => simpa [st8] using hv
  | 1, hv => simpa [st8] using hv
  | 2, hv => simpa [st8] using hv
  | 3, hv => simpa [st8] using hv
  | 4, hv => simpa [st8] using hv
  | 5, hv => simpa [st8] using hv
  | 6, hv => simpa [st8] using hv
  | (n + 7), hv => simp at hv
theorem alloc_size' (w : World) (o : Obj) : (w.alloc o).heap.size = w.heap.size + 1 := by show (w.heap.push o).size = _; simp
theorem three (w : World) (o1 o2 o3 : Obj) : (((w.alloc o1).alloc o2).alloc o3).heap[w.heap.size]? = some o1 ∧ (((w.alloc o1).alloc o2).alloc o3).heap[w.heap.size + 1]? = some o2 ∧ (((w.alloc o1).alloc o2).alloc o3).heap[w.heap.size + 2]? = some o3 ∧ Below w.heap.size w (((w.alloc o1).alloc o2).alloc o3) ∧ (((w.alloc o1).alloc o2).alloc o3).heap.size = w.heap.size + 3 := by
  have e1 := alloc_size' w o1
  have e2 := alloc_size' (w.alloc o1) o2
  have e3 := alloc_size' ((w.alloc o1).alloc o2) o3
  refine ⟨blk_alloc (blk_alloc (blk_new w o1) _) _, ?_, ?_, ((((Below.refl _ _).alloc (Nat.le_refl _) o1).alloc (by omega) o2).alloc (by omega) o3), by omega⟩
  · have := blk_alloc (blk_new (w.alloc o1) o2) o3
    rwa [e1] at this
  · have := blk_new ((w.alloc o1).alloc o2) o3
    rwa [e2, e1] at this
theorem set8 {w : World} {g : Nat} {a0 a1 a2 a3 a4 a5 a6 a7 : Int} (h : w.heap[g]? = some (.cells (st8 a0 a1 a2 a3 a4 a5 a6 a7) 170 (0, 0))) (v0 v1 v2 v3 v4 v5 v6 v7 : Int) : ((((((((w.setCell ⟨g, 0, none⟩ (.int .u32 v0)).setCell ⟨g, 1, none⟩ (.int .u32 v1)).setCell ⟨g, 2, none⟩ (.int .u32 v2)).setCell ⟨g, 3, none⟩ (.int .u32 v3)).setCell ⟨g, 4, none⟩ (.int .u32 v4)).setCell ⟨g, 5, none⟩ (.int .u32 v5)).setCell ⟨g, 6, none⟩ (.int .u32 v6)).setCell ⟨g, 7, none⟩ (.int .u32 v7)).heap[g]? = some (.cells (st8 v0 v1 v2 v3 v4 v5 v6 v7) 170 (0, 0)) := (blk_put (cs' := st8 v0 v1 v2 v3 v4 v5 v6 v7) (blk_put (cs' := st8 v0 v1 v2 v3 v4 v5 v6 a7) (blk_put (cs' := st8 v0 v1 v2 v3 v4 v5 a6 a7) (blk_put (cs' := st8 v0 v1 v2 v3 v4 a5 a6 a7) (blk_put (cs' := st8 v0 v1 v2 v3 a4 a5 a6 a7) (blk_put (cs' := st8 v0 v1 v2 a3 a4 a5 a6 a7) (blk_put (cs' := st8 v0 v1 a2 a3 a4 a5 a6 a7) (blk_put (cs' := st8 v0 a1 a2 a3 a4 a5 a6 a7) h 0 _ rfl) 1 _ rfl) 2 _ rfl) 3 _ rfl) 4 _ rfl) 5 _ rfl) 6 _ rfl) 7 _ rfl)
theorem setj (L M : List Int) {A : List Int} {i : Nat} (h : ∀ j : Nat, L[j]?.getD 0 = if j < i then (A[j]?.getD 0 + M[j]?.getD 0) % 4294967296 else A[j]?.getD 0) (i2 : Nat) (hi : i2 = i ∧ i2 < L.length) (j : Nat) : (L.set i2 ((L[i2]?.getD 0 + M[i2]?.getD 0) % 4294967296))[j]?.getD 0 = if j < i + 1 then (A[j]?.getD 0 + M[j]?.getD 0) % 4294967296 else A[j]?.getD 0 := by
  obtain ⟨rfl, hl⟩ := hi
  rw [List.getElem?_set]
  by_cases hj : i2 = j
  · subst hj
    rw [if_pos rfl, if_pos hl, if_pos (Nat.lt_succ_self _), Option.getD_some, h i2, if_neg (Nat.lt_irrefl _)]
  · rw [if_neg hj, h j]
    by_cases h1 : j < i2
    · rw [if_pos h1, if_pos (by omega)]
    · rw [if_neg h1, if_neg (by omega)]
set_option maxHeartbeats 8000000 in
set_option maxRecDepth 100000 in
theorem sb.calls (k : Nat) (s0 s1 s2 s3 s4 s5 s6 s7 : Int) (A0 : Option Addr) (c0 : Nat) (l0 : List Int) (ws r : List Int) (w : World) (hL0 : Kd.C (Kd.int .u32) w (some ⟨1, 0, none⟩) 64 shaK) (hr0 : Kd.C (Kd.int .u8) w A0 l0.length l0) (hc0 : l0.length ≤ c0) (h64 : l0.length = 64) (hs : sha_schedule.f k l0 = some ws) (hq : sb.l0 65 ws 0 s0 s1 s2 s3 s4 s5 s6 s7 = some r) :
    Calls Try.prog 144 #[.agg #[.int .u32 s0, .int .u32 s1, .int .u32 s2, .int .u32 s3, .int .u32 s4, .int .u32 s5, .int .u32 s6, .int .u32 s7], .slice A0 l0.length c0] w fun e w' => e = .returned (.tuple #[.agg (st8 ((r[0]?.getD 0 + s0) % 4294967296) ((r[1]?.getD 0 + s1) % 4294967296) ((r[2]?.getD 0 + s2) % 4294967296) ((r[3]?.getD 0 + s3) % 4294967296) ((r[4]?.getD 0 + s4) % 4294967296) ((r[5]?.getD 0 + s5) % 4294967296) ((r[6]?.getD 0 + s6) % 4294967296) ((r[7]?.getD 0 + s7) % 4294967296)), .int .i64 0]) ∧ Below w.heap.size w w' := by
  have HR0 := Aside0.mk hr0
  have HC0 := Aside0.mk hc0
  have HS := Aside0.mk hs
  have HLD := Aside0.mk hL0
  have HQ := Aside0.mk hq
  have hlen : (l0.length : Int) = 64 := by omega
  clear hr0 hc0 hs h64 hL0 hq
  go_enter Try.func144, Try.ntmps144
  go_wp2_with (go_at_call 145; refine (sha_schedule.calls k _ _ l0 ws _ ?s1 ?s2 HS.out).mono ?_; (case s1 => exact Kd.C_alloc (Kd.C_alloc (Kd.C_alloc HR0.out _) _) _); (case s2 => exact HC0.out); rintro e w2 ⟨v1, rfl, ho, hb⟩; obtain ⟨Aw, cw, rfl⟩ := Kd.R_slice ho; have HO := Aside0.mk ho; have HB := Aside0.mk hb; clear ho hb)
  obtain ⟨b0, b1, b2, bb, bs⟩ := three w (.cells (st8 s0 s1 s2 s3 s4 s5 s6 s7) 170) (.cells (st8 0 0 0 0 0 0 0 0) 170) (.cells (st8 s0 s1 s2 s3 s4 s5 s6 s7) 170)
  have HS0 := Aside0.mk (blk_below b0 HB.out)
  have HS1 := Aside0.mk (blk_below b1 HB.out)
  have HS2 := Aside0.mk (blk_below b2 HB.out)
  have HBw := Aside0.mk (below_then bb (by omega) HB.out)
  have HSZ := Aside0.mk (show w.heap.size + 3 ≤ w2.heap.size by have := HB.out.size; simp only [st8] at bs; omega)
  clear b0 b1 b2 bb bs
  have HWF := Aside0.mk (Kd.F_mono (ok' := fun k => k ≠ w.heap.size + 2) (Kd.R_F (Kd.R_bound HO.out)) (fun k hk => by have h1 := hk.2.1; rw [(three w _ _ _).2.2.2.2] at h1; omega))
  go_loopg [24] 65 (fun kq v wr => ∃ (i : Nat) (a b c d e f g hh : Int), v = .int .i64 i ∧ Aside0 (sb.l0 kq ws i a b c d e f g hh = some r) ∧ Aside0 (kq ≤ 65) ∧ Aside0 (wr.heap[w.heap.size + 2]? = some (.cells (st8 a b c d e f g hh) 170 (0, 0))) ∧ Aside0 (w2.grownBy wr (some (w.heap.size + 2))))
  case atStart => exact ⟨0, s0, s1, s2, s3, s4, s5, s6, s7, rfl, HQ, ⟨Nat.le_refl _⟩, HS2, ⟨⟨rfl, rfl, rfl, Nat.le_refl _, fun _ _ _ => rfl⟩⟩⟩
  case round =>
    obtain ⟨i, a, b, c, d, e, f, g, hh, rfl, HA, HK, HS3, HG3⟩ := hrel
    have HB3 := Aside0.mk (show Below (w.heap.size + 2) w2 wr from (Below.refl _ _).grown HG3.out (by have := HSZ.out; omega) (fun k hk => by cases hk; exact Nat.le_refl _))
    have HW3 := Aside0.mk (show Kd.C (Kd.int .u32) wr Aw ws.length ws from HWF.out wr (fun k hk hlt => HG3.out.block k hlt (fun e => hk (Option.some.inj e))))
    cases gk with
    | zero => exact absurd HA.out (by simp [sb.l0])
    | succ k1 =>
      have H := HA.out
      clear HA
      simp only [sb.l0] at H
      by_cases d1 : i < ws.length
      · rw [if_pos d1] at H
        have c1 : (i : Int) < (ws.length : Int) := by omega
        by_cases d2 : i < 64
        · rw [if_pos d2] at H
          have c2 : (i : Int) < 64 := by omega
          obtain ⟨te, hte, H⟩ := Option.bind_eq_some_iff.1 H
          obtain ⟨ta, hta, H⟩ := Option.bind_eq_some_iff.1 H
          have HTE := Aside0.mk hte
          have HTA := Aside0.mk hta
          have HH := Aside0.mk H
          clear hte hta H
          have c1b0 : decide ((i : Int) < (ws.length : Int)) = true := decide_eq_true c1
          have c2b0 : decide ((i : Int) < 64) = true := decide_eq_true c2
          obtain ⟨ad, e1, hx1⟩ := Kd.at_int HW3.out (i : Int) (by omega) c1
          cases e1
          simp only [Int.toNat_natCast] at hx1
          have p1 := eq_true (show (0 : Int) ≤ (i : Int) by omega)
          have q1 := eq_true c1
          have q2 := eq_true c2
          have hc0 : wr.cell? ⟨w.heap.size + 2, 0, none⟩ = some (.int .u32 a) := (blk_cell HS3.out 0).trans rfl
          have hc1 : wr.cell? ⟨w.heap.size + 2, 1, none⟩ = some (.int .u32 b) := (blk_cell HS3.out 1).trans rfl
          have hc2 : wr.cell? ⟨w.heap.size + 2, 2, none⟩ = some (.int .u32 c) := (blk_cell HS3.out 2).trans rfl
          have hc3 : wr.cell? ⟨w.heap.size + 2, 3, none⟩ = some (.int .u32 d) := (blk_cell HS3.out 3).trans rfl
          have hc4 : wr.cell? ⟨w.heap.size + 2, 4, none⟩ = some (.int .u32 e) := (blk_cell HS3.out 4).trans rfl
          have hc5 : wr.cell? ⟨w.heap.size + 2, 5, none⟩ = some (.int .u32 f) := (blk_cell HS3.out 5).trans rfl
          have hc6 : wr.cell? ⟨w.heap.size + 2, 6, none⟩ = some (.int .u32 g) := (blk_cell HS3.out 6).trans rfl
          have hc7 : wr.cell? ⟨w.heap.size + 2, 7, none⟩ = some (.int .u32 hh) := (blk_cell HS3.out 7).trans rfl
          have hKw : wr.cell? ⟨1, i, none⟩ = some (.int .u32 (shaK[i]?.getD 0)) := by
            have h1 := laid_cell (K := shaK) HLD.out i (by show i < 64; omega)
            have hb2 : 1 < w.heap.size := World.block_lt_of_cell? w _ h1
            rw [HB3.out.cell (p := ⟨1, i, none⟩) (by show 1 < _; omega), HBw.out.cell (p := ⟨1, i, none⟩) (by show 1 < _; exact hb2)]
            exact h1
          clear c1 c2 d1 d2
          go_wp2
          go_quiet (fail)
          go_wp2
          go_quiet (first | (go_at_call 146; (with_reducible refine (sha_turned.calls e 6 11 25 te _ HTE.out).mono ?_); rintro e w' ⟨rfl, ⟨nd, rfl⟩⟩; first | exact ⟨rfl, _, World.drewN_drewN _ _ _⟩ | exact ⟨rfl, _, Eq.trans (World.drewN_drewN _ _ _) (congrArg (World.drewN _) (Nat.add_assoc _ _ _))⟩))
          go_wp2_with (go_at_call 146; (with_reducible refine (sha_turned.calls a 2 13 22 ta _ HTA.out).mono ?_); rintro e w' ⟨rfl, ⟨nd, rfl⟩⟩)
          go_region_law (refine step_copy_keep rfl (.tmp 75) (.tmp 76) 41 41 rfl 23 Try.underlying41 (by kernel_rfl) (w.heap.size + 2) 1 ⟨w.heap.size + 2, 0, none⟩ 7 7 7 8 rfl rfl [.int .u32 a, .int .u32 b, .int .u32 c, .int .u32 d, .int .u32 e, .int .u32 f, .int .u32 g, .int .u32 hh] 170 HS3.out [.int .u32 a, .int .u32 b, .int .u32 c, .int .u32 d, .int .u32 e, .int .u32 f, .int .u32 g] rfl ?hpos (by simp) ?h1 w2 ?hb ?_; (case hpos => exact seven HS3.out); (case h1 => intro v hv; simp at hv; rcases hv with rfl | rfl | rfl | rfl | rfl | rfl | rfl <;> rfl); (case hb => exact grown_drew (grown_drewN HG3.out _)); intro w4 hg4 hb4)
          have HB4 := Aside0.mk hb4
          have HS4 := Aside0.mk (show w4.heap[w.heap.size + 2]? = some (.cells (st8 a a b c d e f g) 170 (0, 0)) from hg4)
          clear hg4 hb4 hc0 hc1 hc2 hc3 hc4 hc5 hc6 hc7 hx1 hKw
          have hc4 : w4.cell? ⟨w.heap.size + 2, 4, none⟩ = some (.int .u32 d) := (blk_cell HS4.out 4).trans rfl
          have hc0 : w4.cell? ⟨w.heap.size + 2, 0, none⟩ = some (.int .u32 a) := (blk_cell HS4.out 0).trans rfl
          have hf4 := blk_frozen HS4.out 4
          have hf0 := blk_frozen HS4.out 0
          go_wp2
          have HW := Aside0.mk (show wrap64 ((i : Int) + 1) = ((i + 1 : Nat) : Int) by have := c2b0; unfold wrap64; have := of_decide_eq_true c2b0; omega)
          go_roundg k1
          case measure => have := HK.out; omega
          case rel =>
            refine ⟨i + 1, _, a, b, c, _, e, f, g, congrArg (Value.int .i64) HW.out, HH, ⟨by have := HK.out; omega⟩, ⟨?_⟩, ⟨?_⟩⟩
            · exact blk_put (cs := st8 a a b c _ e f g) (blk_put (cs := st8 a a b c d e f g) HS4.out 4 _ rfl) 0 _ rfl
            · exact grown_set (grown_set HB4.out)
        · rw [if_neg d2] at H; cases H
      · rw [if_neg d1] at H
        obtain rfl := Option.some.inj H
        have c1b0 : decide ((i : Int) < (ws.length : Int)) = false := decide_eq_false (by omega)
        go_wp2
        have HSB := Aside0.mk (show wr.heap[w.heap.size]? = some (.cells (st8 s0 s1 s2 s3 s4 s5 s6 s7) 170 (0, 0)) from blk_grown HS0.out HG3.out (by simp))
        have HRB := Aside0.mk (show wr.heap[w.heap.size + 1]? = some (.cells (st8 0 0 0 0 0 0 0 0) 170 (0, 0)) from blk_grown HS1.out HG3.out (by simp))
        clear HK c1b0
        go_loopg [88] 9 (fun kq v wq => ∃ (i : Nat) (L : List Int), v = .int .i64 i ∧ i ≤ 8 ∧ Aside0 (8 < kq + i) ∧ Aside0 (kq ≤ 9) ∧ L.length = 8 ∧ Aside0 (∀ j, L[j]?.getD 0 = if j < i then ([a, b, c, d, e, f, g, hh][j]?.getD 0 + [s0, s1, s2, s3, s4, s5, s6, s7][j]?.getD 0) % 4294967296 else [a, b, c, d, e, f, g, hh][j]?.getD 0) ∧ Aside0 (wq.heap[w.heap.size + 2]? = some (.cells (L.map (Value.int .u32)).toArray 170 (0, 0))) ∧ Aside0 (w2.grownBy wq (some (w.heap.size + 2))))
        case atStart => exact ⟨0, [a, b, c, d, e, f, g, hh], rfl, Nat.zero_le _, ⟨by omega⟩, ⟨Nat.le_refl _⟩, rfl, ⟨fun j => by simp⟩, HS3, HG3⟩
        case round =>
          obtain ⟨i2, L, rfl, hi8, HF, HK9, hL8, HLj, HS5, HG5⟩ := hrel
          rcases Nat.lt_or_ge i2 8 with hlt | hge
          · have c3b0 : decide ((i2 : Int) < 8) = true := decide_eq_true (by omega)
            have q3 := eq_true (show (i2 : Int) < 8 by omega)
            have p3 := eq_true (show (0 : Int) ≤ (i2 : Int) by omega)
            have hv1 : wr.cell? ⟨w.heap.size + 2, i2, none⟩ = some (.int .u32 (L[i2]?.getD 0)) := (blk_cell HS5.out i2).trans (by simp [hL8, hlt])
            have HSB2 := Aside0.mk (show wr.heap[w.heap.size]? = some (.cells (st8 s0 s1 s2 s3 s4 s5 s6 s7) 170 (0, 0)) from blk_grown HS0.out HG5.out (by simp))
            have hv2 : wr.cell? ⟨w.heap.size, i2, none⟩ = some (.int .u32 ([s0, s1, s2, s3, s4, s5, s6, s7][i2]?.getD 0)) := (blk_cell HSB2.out i2).trans (eight hlt)
            have hf2 := blk_frozen HS5.out i2
            go_wp2
            go_region
            go_wp2
            have HW2 := Aside0.mk (show wrap64 ((i2 : Int) + 1) = ((i2 + 1 : Nat) : Int) by unfold wrap64; omega)
            obtain ⟨k2, hk2⟩ : ∃ k2, gk = k2 + 1 := ⟨gk - 1, by have := HF.out; omega⟩
            subst hk2
            go_roundg k2
            case measure => have := HK9.out; omega
            case rel =>
              refine ⟨i2 + 1, L.set i2 ((L[i2]?.getD 0 + [s0, s1, s2, s3, s4, s5, s6, s7][i2]?.getD 0) % 4294967296), ?_, by omega, ⟨by have := HF.out; omega⟩, ⟨by have := HK9.out; omega⟩, by simp [hL8], ⟨fun j => ?_⟩, ⟨?_⟩, ⟨?_⟩⟩
              · first | exact congrArg (Value.int .i64) HW2.out | (push_cast; rfl)
              · exact setj _ _ HLj.out i2 ⟨rfl, by omega⟩ j
              · have hb5 := blk_put (cs := (L.map (Value.int .u32)).toArray) HS5.out i2 (.int .u32 ((L[i2]'(by omega) + [s0, s1, s2, s3, s4, s5, s6, s7][i2]'(by simp; omega)) % 4294967296)) rfl
                have e5 : (L.map (Value.int .u32)).toArray.setIfInBounds i2 (.int .u32 ((L[i2]'(by omega) + [s0, s1, s2, s3, s4, s5, s6, s7][i2]'(by simp; omega)) % 4294967296)) = ((L.set i2 ((L[i2]?.getD 0 + [s0, s1, s2, s3, s4, s5, s6, s7][i2]?.getD 0) % 4294967296)).map (Value.int .u32)).toArray := by
                  rw [List.getElem?_eq_getElem (l := L) (by omega), List.getElem?_eq_getElem (l := [s0, s1, s2, s3, s4, s5, s6, s7]) (by simp; omega)]
                  simp [List.map_set]
                rw [e5] at hb5
                exact hb5
              · exact grown_drew (grown_set HG5.out)
          · have hi9 : i2 = 8 := by omega
            subst hi9
            obtain ⟨r0, r1, r2, r3, r4, r5, r6, r7, rfl⟩ : ∃ r0 r1 r2 r3 r4 r5 r6 r7, L = [r0, r1, r2, r3, r4, r5, r6, r7] := by
              match L, hL8 with
              | [r0, r1, r2, r3, r4, r5, r6, r7], _ => exact ⟨r0, r1, r2, r3, r4, r5, r6, r7, rfl⟩
            have hcs : ∀ j, j < 8 → wr.cell? ⟨w.heap.size + 2, j, none⟩ = some (.int .u32 ([r0, r1, r2, r3, r4, r5, r6, r7][j]?.getD 0)) := fun j hj => (blk_cell HS5.out j).trans (eight hj)
            have hr0 := hcs 0 (by omega)
            have hr1 := hcs 1 (by omega)
            have hr2 := hcs 2 (by omega)
            have hr3 := hcs 3 (by omega)
            have hr4 := hcs 4 (by omega)
            have hr5 := hcs 5 (by omega)
            have hr6 := hcs 6 (by omega)
            have hr7 := hcs 7 (by omega)
            have HRB2 := Aside0.mk (show wr.heap[w.heap.size + 1]? = some (.cells (st8 0 0 0 0 0 0 0 0) 170 (0, 0)) from blk_grown HS1.out HG5.out (by simp))
            have hz0 : wr.cell? ⟨w.heap.size + 1, 0, none⟩ = some (.int .u32 0) := (blk_cell HRB2.out 0).trans rfl
            have hy0 := blk_frozen HRB2.out 0
            have hz1 : wr.cell? ⟨w.heap.size + 1, 1, none⟩ = some (.int .u32 0) := (blk_cell HRB2.out 1).trans rfl
            have hy1 := blk_frozen HRB2.out 1
            have hz2 : wr.cell? ⟨w.heap.size + 1, 2, none⟩ = some (.int .u32 0) := (blk_cell HRB2.out 2).trans rfl
            have hy2 := blk_frozen HRB2.out 2
            have hz3 : wr.cell? ⟨w.heap.size + 1, 3, none⟩ = some (.int .u32 0) := (blk_cell HRB2.out 3).trans rfl
            have hy3 := blk_frozen HRB2.out 3
            have hz4 : wr.cell? ⟨w.heap.size + 1, 4, none⟩ = some (.int .u32 0) := (blk_cell HRB2.out 4).trans rfl
            have hy4 := blk_frozen HRB2.out 4
            have hz5 : wr.cell? ⟨w.heap.size + 1, 5, none⟩ = some (.int .u32 0) := (blk_cell HRB2.out 5).trans rfl
            have hy5 := blk_frozen HRB2.out 5
            have hz6 : wr.cell? ⟨w.heap.size + 1, 6, none⟩ = some (.int .u32 0) := (blk_cell HRB2.out 6).trans rfl
            have hy6 := blk_frozen HRB2.out 6
            have hz7 : wr.cell? ⟨w.heap.size + 1, 7, none⟩ = some (.int .u32 0) := (blk_cell HRB2.out 7).trans rfl
            have hy7 := blk_frozen HRB2.out 7
            go_wp2
            have hj0 := HLj.out 0
            have hj1 := HLj.out 1
            have hj2 := HLj.out 2
            have hj3 := HLj.out 3
            have hj4 := HLj.out 4
            have hj5 := HLj.out 5
            have hj6 := HLj.out 6
            have hj7 := HLj.out 7
            simp at hj0 hj1 hj2 hj3 hj4 hj5 hj6 hj7
            subst hj0 hj1 hj2 hj3 hj4 hj5 hj6 hj7
            refine bodyPost_ret (results_ct rfl _ _ (w.heap.size + 1) 170 _ (0, 0) _ rfl (set8 HRB2.out _ _ _ _ _ _ _ _) Try.underlying170 rfl (by kernel_rfl)) rfl ?_
            refine ⟨by simp [st8], ?_⟩
            have HX : Below w.heap.size w wr := HBw.out.trans (((Below.refl (w.heap.size + 2) w2).grown HG5.out (by have := HSZ.out; omega) (fun k hk => by cases hk; exact Nat.le_refl _)).mono (by omega))
            exact (Below.setCell (Below.setCell (Below.setCell (Below.setCell (Below.setCell (Below.setCell (Below.setCell (Below.setCell HX (p := ⟨w.heap.size + 1, 0, none⟩) (by show w.heap.size ≤ w.heap.size + 1; omega) _) (p := ⟨w.heap.size + 1, 1, none⟩) (by show w.heap.size ≤ w.heap.size + 1; omega) _) (p := ⟨w.heap.size + 1, 2, none⟩) (by show w.heap.size ≤ w.heap.size + 1; omega) _) (p := ⟨w.heap.size + 1, 3, none⟩) (by show w.heap.size ≤ w.heap.size + 1; omega) _) (p := ⟨w.heap.size + 1, 4, none⟩) (by show w.heap.size ≤ w.heap.size + 1; omega) _) (p := ⟨w.heap.size + 1, 5, none⟩) (by show w.heap.size ≤ w.heap.size + 1; omega) _) (p := ⟨w.heap.size + 1, 6, none⟩) (by show w.heap.size ≤ w.heap.size + 1; omega) _) (p := ⟨w.heap.size + 1, 7, none⟩) (by show w.heap.size ≤ w.heap.size + 1; omega) _)
def sb.fin (s : List Int) (r : List Int) : List Int := [(r[0]?.getD 0 + s[0]?.getD 0) % 4294967296, (r[1]?.getD 0 + s[1]?.getD 0) % 4294967296, (r[2]?.getD 0 + s[2]?.getD 0) % 4294967296, (r[3]?.getD 0 + s[3]?.getD 0) % 4294967296, (r[4]?.getD 0 + s[4]?.getD 0) % 4294967296, (r[5]?.getD 0 + s[5]?.getD 0) % 4294967296, (r[6]?.getD 0 + s[6]?.getD 0) % 4294967296, (r[7]?.getD 0 + s[7]?.getD 0) % 4294967296]
/-- A state behind a block. -/
def sb.f (k : Nat) (s : List Int) (l0 : List Int) : Option (List Int) := if l0.length = 64 then (sha_schedule.f k l0).bind fun ws => (sb.l0 65 ws 0 (s[0]?.getD 0) (s[1]?.getD 0) (s[2]?.getD 0) (s[3]?.getD 0) (s[4]?.getD 0) (s[5]?.getD 0) (s[6]?.getD 0) (s[7]?.getD 0)).map (sb.fin s) else none
/-- A state's cells, out of its words. -/
def stl (s : List Int) : Array Value := st8 (s[0]?.getD 0) (s[1]?.getD 0) (s[2]?.getD 0) (s[3]?.getD 0) (s[4]?.getD 0) (s[5]?.getD 0) (s[6]?.getD 0) (s[7]?.getD 0)
theorem sb.call (k : Nat) (s : List Int) (A0 : Option Addr) (c0 : Nat) (l0 : List Int) (r : List Int) (w : World) (hL0 : Kd.C (Kd.int .u32) w (some ⟨1, 0, none⟩) 64 shaK) (hr0 : Kd.C (Kd.int .u8) w A0 l0.length l0) (hc0 : l0.length ≤ c0) (h : sb.f k s l0 = some r) :
    Calls Try.prog 144 #[.agg (stl s), .slice A0 l0.length c0] w fun e w' => e = .returned (.tuple #[.agg (stl r), .int .i64 0]) ∧ Below w.heap.size w w' := by
  unfold sb.f at h
  by_cases h64 : l0.length = 64
  · rw [if_pos h64] at h
    obtain ⟨ws, hs, h⟩ := Option.bind_eq_some_iff.1 h
    obtain ⟨q, hq, rfl⟩ := Option.map_eq_some_iff.1 h
    exact sb.calls k _ _ _ _ _ _ _ _ A0 c0 l0 ws q w hL0 hr0 hc0 h64 hs hq
  · rw [if_neg h64] at h; cases h
set_option maxHeartbeats 8000000 in
set_option maxRecDepth 100000 in
theorem sb.other (s : List Int) (A0 : Option Addr) (c0 : Nat) (l0 : List Int) (w : World) (hr0 : Kd.C (Kd.int .u8) w A0 l0.length l0) (hc0 : l0.length ≤ c0) (h64 : l0.length ≠ 64) :
    Calls Try.prog 144 #[.agg (stl s), .slice A0 l0.length c0] w fun e w' => e = .returned (.tuple #[.agg (stl [0, 0, 0, 0, 0, 0, 0, 0]), .int .i64 1]) ∧ Below w.heap.size w w' := by
  have hlen : ((l0.length : Int) = 64) = False := eq_false (by omega)
  have hlen2 : ((l0.length : Int) != 64) = true := by simp [bne, hlen]
  unfold stl
  generalize s[0]?.getD 0 = s0, s[1]?.getD 0 = s1, s[2]?.getD 0 = s2, s[3]?.getD 0 = s3, s[4]?.getD 0 = s4, s[5]?.getD 0 = s5, s[6]?.getD 0 = s6, s[7]?.getD 0 = s7
  obtain ⟨b0, b1, b2, bb, bs⟩ := three w (.cells (st8 s0 s1 s2 s3 s4 s5 s6 s7) 170) (.cells (st8 0 0 0 0 0 0 0 0) 170) (.cells (st8 s0 s1 s2 s3 s4 s5 s6 s7) 170)
  clear hr0 hc0 h64 bs
  unfold st8
  go_enter Try.func144, Try.ntmps144
  go_wp2
  have e1 := alloc_size' w (.cells #[.int .u32 s0, .int .u32 s1, .int .u32 s2, .int .u32 s3, .int .u32 s4, .int .u32 s5, .int .u32 s6, .int .u32 s7] 170)
  have e2 := blk_new (w.alloc (.cells #[.int .u32 s0, .int .u32 s1, .int .u32 s2, .int .u32 s3, .int .u32 s4, .int .u32 s5, .int .u32 s6, .int .u32 s7] 170)) (.cells #[.int .u32 0, .int .u32 0, .int .u32 0, .int .u32 0, .int .u32 0, .int .u32 0, .int .u32 0, .int .u32 0] 170)
  rw [e1] at e2
  refine bodyPost_ret (results_ct rfl _ _ (w.heap.size + 1) 170 _ (0, 0) _ rfl e2 Try.underlying170 rfl (by kernel_rfl)) rfl ?_
  exact ⟨rfl, ((Below.refl _ _).alloc (Nat.le_refl _) _).alloc (by rw [e1]; omega) _⟩
def hs10 (a b c d e f g h : Int) (v : Value) (m : Int) : Array Value := #[.int .u32 a, .int .u32 b, .int .u32 c, .int .u32 d, .int .u32 e, .int .u32 f, .int .u32 g, .int .u32 h, v, .int .u64 m]
def hsl (s : List Int) (v : Value) (m : Int) : Array Value := hs10 (s[0]?.getD 0) (s[1]?.getD 0) (s[2]?.getD 0) (s[3]?.getD 0) (s[4]?.getD 0) (s[5]?.getD 0) (s[6]?.getD 0) (s[7]?.getD 0) v m
theorem set10 {w : World} {g : Nat} {a0 a1 a2 a3 a4 a5 a6 a7 m : Int} {v : Value} (h : w.heap[g]? = some (.cells (hs10 a0 a1 a2 a3 a4 a5 a6 a7 v m) 172 (0, 0))) (v0 v1 v2 v3 v4 v5 v6 v7 : Int) : ((((((((w.setCell ⟨g, 0, none⟩ (.int .u32 v0)).setCell ⟨g, 1, none⟩ (.int .u32 v1)).setCell ⟨g, 2, none⟩ (.int .u32 v2)).setCell ⟨g, 3, none⟩ (.int .u32 v3)).setCell ⟨g, 4, none⟩ (.int .u32 v4)).setCell ⟨g, 5, none⟩ (.int .u32 v5)).setCell ⟨g, 6, none⟩ (.int .u32 v6)).setCell ⟨g, 7, none⟩ (.int .u32 v7)).heap[g]? = some (.cells (hs10 v0 v1 v2 v3 v4 v5 v6 v7 v m) 172 (0, 0)) := (blk_put (cs' := hs10 v0 v1 v2 v3 v4 v5 v6 v7 v m) (blk_put (cs' := hs10 v0 v1 v2 v3 v4 v5 v6 a7 v m) (blk_put (cs' := hs10 v0 v1 v2 v3 v4 v5 a6 a7 v m) (blk_put (cs' := hs10 v0 v1 v2 v3 v4 a5 a6 a7 v m) (blk_put (cs' := hs10 v0 v1 v2 v3 a4 a5 a6 a7 v m) (blk_put (cs' := hs10 v0 v1 v2 a3 a4 a5 a6 a7 v m) (blk_put (cs' := hs10 v0 v1 a2 a3 a4 a5 a6 a7 v m) (blk_put (cs' := hs10 v0 a1 a2 a3 a4 a5 a6 a7 v m) h 0 _ rfl) 1 _ rfl) 2 _ rfl) 3 _ rfl) 4 _ rfl) 5 _ rfl) 6 _ rfl) 7 _ rfl)
theorem set8_below {B : Nat} {w0 w : World} {g : Nat} (hb : Below B w0 w) (hg : B ≤ g) (v0 v1 v2 v3 v4 v5 v6 v7 : Int) : Below B w0 ((((((((w.setCell ⟨g, 0, none⟩ (.int .u32 v0)).setCell ⟨g, 1, none⟩ (.int .u32 v1)).setCell ⟨g, 2, none⟩ (.int .u32 v2)).setCell ⟨g, 3, none⟩ (.int .u32 v3)).setCell ⟨g, 4, none⟩ (.int .u32 v4)).setCell ⟨g, 5, none⟩ (.int .u32 v5)).setCell ⟨g, 6, none⟩ (.int .u32 v6)).setCell ⟨g, 7, none⟩ (.int .u32 v7)) := (Below.setCell (Below.setCell (Below.setCell (Below.setCell (Below.setCell (Below.setCell (Below.setCell (Below.setCell hb (p := ⟨g, 0, none⟩) hg _) (p := ⟨g, 1, none⟩) hg _) (p := ⟨g, 2, none⟩) hg _) (p := ⟨g, 3, none⟩) hg _) (p := ⟨g, 4, none⟩) hg _) (p := ⟨g, 5, none⟩) hg _) (p := ⟨g, 6, none⟩) hg _) (p := ⟨g, 7, none⟩) hg _)
theorem set8_far {d : Kd Int} {A : Option Addr} {n : Nat} {xs : List Int} {ok : Nat → Prop} {w : World} {g : Nat} (h : d.F w ok A n xs) (hok : ∀ k, ok k → k ≠ g) (v0 v1 v2 v3 v4 v5 v6 v7 : Int) : d.F ((((((((w.setCell ⟨g, 0, none⟩ (.int .u32 v0)).setCell ⟨g, 1, none⟩ (.int .u32 v1)).setCell ⟨g, 2, none⟩ (.int .u32 v2)).setCell ⟨g, 3, none⟩ (.int .u32 v3)).setCell ⟨g, 4, none⟩ (.int .u32 v4)).setCell ⟨g, 5, none⟩ (.int .u32 v5)).setCell ⟨g, 6, none⟩ (.int .u32 v6)).setCell ⟨g, 7, none⟩ (.int .u32 v7)) ok A n xs := (Kd.F_far (Kd.F_far (Kd.F_far (Kd.F_far (Kd.F_far (Kd.F_far (Kd.F_far (Kd.F_far h (p := ⟨g, 0, none⟩) hok _) (p := ⟨g, 1, none⟩) hok _) (p := ⟨g, 2, none⟩) hok _) (p := ⟨g, 3, none⟩) hok _) (p := ⟨g, 4, none⟩) hok _) (p := ⟨g, 5, none⟩) hok _) (p := ⟨g, 6, none⟩) hok _) (p := ⟨g, 7, none⟩) hok _)
theorem set8_other {w : World} {g g' : Nat} {t : TypeId} {cs : Array Value} (hne : g' ≠ g) (h : w.heap[g']? = some (.cells cs t (0, 0))) (v0 v1 v2 v3 v4 v5 v6 v7 : Int) : ((((((((w.setCell ⟨g, 0, none⟩ (.int .u32 v0)).setCell ⟨g, 1, none⟩ (.int .u32 v1)).setCell ⟨g, 2, none⟩ (.int .u32 v2)).setCell ⟨g, 3, none⟩ (.int .u32 v3)).setCell ⟨g, 4, none⟩ (.int .u32 v4)).setCell ⟨g, 5, none⟩ (.int .u32 v5)).setCell ⟨g, 6, none⟩ (.int .u32 v6)).setCell ⟨g, 7, none⟩ (.int .u32 v7)).heap[g']? = some (.cells cs t (0, 0)) := (blk_far (blk_far (blk_far (blk_far (blk_far (blk_far (blk_far (blk_far h (show g' ≠ g from hne) _) (show g' ≠ g from hne) _) (show g' ≠ g from hne) _) (show g' ≠ g from hne) _) (show g' ≠ g from hne) _) (show g' ≠ g from hne) _) (show g' ≠ g from hne) _) (show g' ≠ g from hne) _)
theorem set10all {w : World} {g : Nat} {a0 a1 a2 a3 a4 a5 a6 a7 m : Int} {v : Value} (h : w.heap[g]? = some (.cells (hs10 a0 a1 a2 a3 a4 a5 a6 a7 v m) 172 (0, 0))) (v0 v1 v2 v3 v4 v5 v6 v7 : Int) (v8 : Value) (v9 : Int) : ((((((((((w.setCell ⟨g, 0, none⟩ (.int .u32 v0)).setCell ⟨g, 1, none⟩ (.int .u32 v1)).setCell ⟨g, 2, none⟩ (.int .u32 v2)).setCell ⟨g, 3, none⟩ (.int .u32 v3)).setCell ⟨g, 4, none⟩ (.int .u32 v4)).setCell ⟨g, 5, none⟩ (.int .u32 v5)).setCell ⟨g, 6, none⟩ (.int .u32 v6)).setCell ⟨g, 7, none⟩ (.int .u32 v7)).setCell ⟨g, 8, none⟩ v8).setCell ⟨g, 9, none⟩ (.int .u64 v9)).heap[g]? = some (.cells (hs10 v0 v1 v2 v3 v4 v5 v6 v7 v8 v9) 172 (0, 0)) := (blk_put (cs' := hs10 v0 v1 v2 v3 v4 v5 v6 v7 v8 v9) (blk_put (cs' := hs10 v0 v1 v2 v3 v4 v5 v6 v7 v8 m) (blk_put (cs' := hs10 v0 v1 v2 v3 v4 v5 v6 v7 v m) (blk_put (cs' := hs10 v0 v1 v2 v3 v4 v5 v6 a7 v m) (blk_put (cs' := hs10 v0 v1 v2 v3 v4 v5 a6 a7 v m) (blk_put (cs' := hs10 v0 v1 v2 v3 v4 a5 a6 a7 v m) (blk_put (cs' := hs10 v0 v1 v2 v3 a4 a5 a6 a7 v m) (blk_put (cs' := hs10 v0 v1 v2 a3 a4 a5 a6 a7 v m) (blk_put (cs' := hs10 v0 v1 a2 a3 a4 a5 a6 a7 v m) (blk_put (cs' := hs10 v0 a1 a2 a3 a4 a5 a6 a7 v m) h 0 _ rfl) 1 _ rfl) 2 _ rfl) 3 _ rfl) 4 _ rfl) 5 _ rfl) 6 _ rfl) 7 _ rfl) 8 _ rfl) 9 _ rfl)
theorem set10all_below {B : Nat} {w0 w : World} {g : Nat} (hb : Below B w0 w) (hg : B ≤ g) (v0 v1 v2 v3 v4 v5 v6 v7 : Int) (v8 : Value) (v9 : Int) : Below B w0 ((((((((((w.setCell ⟨g, 0, none⟩ (.int .u32 v0)).setCell ⟨g, 1, none⟩ (.int .u32 v1)).setCell ⟨g, 2, none⟩ (.int .u32 v2)).setCell ⟨g, 3, none⟩ (.int .u32 v3)).setCell ⟨g, 4, none⟩ (.int .u32 v4)).setCell ⟨g, 5, none⟩ (.int .u32 v5)).setCell ⟨g, 6, none⟩ (.int .u32 v6)).setCell ⟨g, 7, none⟩ (.int .u32 v7)).setCell ⟨g, 8, none⟩ v8).setCell ⟨g, 9, none⟩ (.int .u64 v9)) := (Below.setCell (Below.setCell (Below.setCell (Below.setCell (Below.setCell (Below.setCell (Below.setCell (Below.setCell (Below.setCell (Below.setCell hb (p := ⟨g, 0, none⟩) hg _) (p := ⟨g, 1, none⟩) hg _) (p := ⟨g, 2, none⟩) hg _) (p := ⟨g, 3, none⟩) hg _) (p := ⟨g, 4, none⟩) hg _) (p := ⟨g, 5, none⟩) hg _) (p := ⟨g, 6, none⟩) hg _) (p := ⟨g, 7, none⟩) hg _) (p := ⟨g, 8, none⟩) hg _) (p := ⟨g, 9, none⟩) hg _)
theorem set10all_R {d : Kd Int} {e base : Nat} {v : Value} {xs : List Int} {ok : Nat → Prop} {w : World} {g : Nat} (h : d.R e w base ok v xs) (hok : ∀ k, ok k → k ≠ g) (v0 v1 v2 v3 v4 v5 v6 v7 : Int) (v8 : Value) (v9 : Int) : d.R e ((((((((((w.setCell ⟨g, 0, none⟩ (.int .u32 v0)).setCell ⟨g, 1, none⟩ (.int .u32 v1)).setCell ⟨g, 2, none⟩ (.int .u32 v2)).setCell ⟨g, 3, none⟩ (.int .u32 v3)).setCell ⟨g, 4, none⟩ (.int .u32 v4)).setCell ⟨g, 5, none⟩ (.int .u32 v5)).setCell ⟨g, 6, none⟩ (.int .u32 v6)).setCell ⟨g, 7, none⟩ (.int .u32 v7)).setCell ⟨g, 8, none⟩ v8).setCell ⟨g, 9, none⟩ (.int .u64 v9)) base ok v xs := (Kd.R_far (Kd.R_far (Kd.R_far (Kd.R_far (Kd.R_far (Kd.R_far (Kd.R_far (Kd.R_far (Kd.R_far (Kd.R_far h (p := ⟨g, 0, none⟩) hok _) (p := ⟨g, 1, none⟩) hok _) (p := ⟨g, 2, none⟩) hok _) (p := ⟨g, 3, none⟩) hok _) (p := ⟨g, 4, none⟩) hok _) (p := ⟨g, 5, none⟩) hok _) (p := ⟨g, 6, none⟩) hok _) (p := ⟨g, 7, none⟩) hok _) (p := ⟨g, 8, none⟩) hok _) (p := ⟨g, 9, none⟩) hok _)
theorem C_two {w : World} {b : Nat} {A B : Option Addr} {c d : Nat} {x y : List Int} {t : TypeId} (h : w.heap[b]? = some (.cells #[.slice A x.length c, .slice B y.length d] t (0, 0))) (hx : Kd.C (Kd.int .u8) w A x.length x) (hy : Kd.C (Kd.int .u8) w B y.length y) (hc : x.length ≤ c) (hd : y.length ≤ d) : Kd.C (Kd.slice 5 (Kd.int .u8)) w (some ⟨b, 0, none⟩) [x, y].length [x, y] := by
  refine ⟨rfl, by simp, fun _ => ⟨_, rfl, fun j p hj => ?_⟩⟩
  match j, hj with
  | 0, hj =>
    obtain rfl := Option.some.inj hj
    refine ⟨[.slice A x.length c], rfl, ⟨A, c, rfl, hc, hx⟩, fun i u hu => ?_⟩
    match i, hu with
    | 0, hu =>
      obtain rfl := Option.some.inj hu
      rw [add_plain, blk_cell h]; rfl
  | 1, hj =>
    obtain rfl := Option.some.inj hj
    refine ⟨[.slice B y.length d], rfl, ⟨B, d, rfl, hd, hy⟩, fun i u hu => ?_⟩
    match i, hu with
    | 0, hu =>
      obtain rfl := Option.some.inj hu
      rw [add_plain, blk_cell h]; rfl
/-- The blocks of a text. -/
def mo.l0 (k : Nat) : Nat → List Int → List Int → Option (List Int × List Int)
  | 0, _, _ => none
  | n + 1, s, all => if 64 ≤ all.length then (sb.f k s (all.take 64)).bind fun s' => mo.l0 k n s' (all.drop 64) else some (s, all)
def mo.f (k : Nat) (s lr l0 : List Int) : Option (List Int × List Int) := if lr.length < 64 ∧ (lr ++ l0).length < 140737488355328 then mo.l0 k ((lr ++ l0).length + 1) s (lr ++ l0) else none
theorem sb.eight {k : Nat} {s l r : List Int} (h : sb.f k s l = some r) : r = [r[0]?.getD 0, r[1]?.getD 0, r[2]?.getD 0, r[3]?.getD 0, r[4]?.getD 0, r[5]?.getD 0, r[6]?.getD 0, r[7]?.getD 0] := by
  unfold sb.f at h
  split at h
  · obtain ⟨ws, hs, h⟩ := Option.bind_eq_some_iff.1 h
    obtain ⟨q, hq, rfl⟩ := Option.map_eq_some_iff.1 h
    rfl
  · cases h
set_option maxHeartbeats 8000000 in
set_option maxRecDepth 100000 in
theorem st.call (w : World) (hL1 : Kd.C (Kd.int .u32) w (some ⟨0, 0, none⟩) 8 shaF) :
    Calls Try.prog 141 #[] w fun e w' => e = .returned (.agg (hsl shaF (.slice none 0 0) 0)) ∧ Below w.heap.size w w' := by
  have hc0 := laid_cell (K := shaF) hL1 0 (by decide)
  have hc1 := laid_cell (K := shaF) hL1 1 (by decide)
  have hc2 := laid_cell (K := shaF) hL1 2 (by decide)
  have hc3 := laid_cell (K := shaF) hL1 3 (by decide)
  have hc4 := laid_cell (K := shaF) hL1 4 (by decide)
  have hc5 := laid_cell (K := shaF) hL1 5 (by decide)
  have hc6 := laid_cell (K := shaF) hL1 6 (by decide)
  have hc7 := laid_cell (K := shaF) hL1 7 (by decide)
  have hg : 0 < w.heap.size := World.block_lt_of_cell? w _ hc0
  clear hL1
  go_enter Try.func141, Try.ntmps141
  go_wp2
  refine bodyPost_ret (results_single rfl (.cell w.heap.size 172 _ (0, 0) _ rfl (blk_new w _) Try.underlying172 rfl (by kernel_rfl) .nil)) rfl ?_
  exact ⟨rfl, (Below.refl _ _).alloc (Nat.le_refl _) _⟩

theorem two (w : World) (o1 o2 : Obj) : ((w.alloc o1).alloc o2).heap[w.heap.size]? = some o1 ∧ ((w.alloc o1).alloc o2).heap[w.heap.size + 1]? = some o2 ∧ Below w.heap.size w ((w.alloc o1).alloc o2) ∧ ((w.alloc o1).alloc o2).heap.size = w.heap.size + 2 := by
  have e1 := alloc_size' w o1
  have e2 := alloc_size' (w.alloc o1) o2
  refine ⟨blk_alloc (blk_new w o1) _, ?_, (((Below.refl _ _).alloc (Nat.le_refl _) o1).alloc (by omega) o2), by omega⟩
  have := blk_new (w.alloc o1) o2
  rwa [e1] at this
set_option maxHeartbeats 8000000 in
set_option maxRecDepth 100000 in
theorem mo.walk (k : Nat) (s0 s1 s2 s3 s4 s5 s6 s7 : Int) (R0 : Option Addr) (cr : Nat) (lr : List Int) (m : Int) (A0 : Option Addr) (c0 : Nat) (l0 : List Int) (s' rest : List Int) (w : World) (hL0 : Kd.C (Kd.int .u32) w (some ⟨1, 0, none⟩) 64 shaK) (hrr : Kd.C (Kd.int .u8) w R0 lr.length lr) (hcr : lr.length ≤ cr) (hr0 : Kd.C (Kd.int .u8) w A0 l0.length l0) (hc0 : l0.length ≤ c0)
    (hlr : lr.length < 64) (hal : (lr ++ l0).length < 140737488355328) (h : mo.l0 k ((lr ++ l0).length + 1) [s0, s1, s2, s3, s4, s5, s6, s7] (lr ++ l0) = some (s', rest)) :
    Calls Try.prog 140 #[.agg (hs10 s0 s1 s2 s3 s4 s5 s6 s7 (.slice R0 lr.length cr) m), .slice A0 l0.length c0] w fun e w' => ∃ v0_ : Value, e = .returned (.tuple #[.agg (hsl s' v0_ ((m + (l0.length : Int)) % 18446744073709551616)), .int .i64 0]) ∧ Kd.R (Kd.int .u8) 5 w' w.heap.size (fun _ => True) v0_ rest ∧ Below w.heap.size w w' := by
  have HLD := Aside0.mk hL0
  have HRR := Aside0.mk hrr
  have HCR := Aside0.mk hcr
  have HR0 := Aside0.mk hr0
  have HC0 := Aside0.mk hc0
  have HLR := Aside0.mk hlr
  have HAL := Aside0.mk hal
  have H := Aside0.mk h
  have c1 : decide (64 ≤ (lr.length : Int)) = false := decide_eq_false (by omega)
  have hgt : 1 < w.heap.size := World.block_lt_of_cell? w _ (laid_cell (K := shaK) hL0 0 (by decide))
  have HGT := Aside0.mk hgt
  have hll : l0.length < 140737488355328 := by rw [List.length_append] at hal; omega
  clear hL0 hrr hcr hr0 hc0 hlr hal h hgt
  unfold hs10
  have hmo := Aside0.mk (show ((m + (l0.length : Int) % 18446744073709551616) % 18446744073709551616) = (m + (l0.length : Int)) % 18446744073709551616 by omega)
  obtain ⟨b0, b1, b2, bb, bs⟩ := three w (.cells #[.int .u32 s0, .int .u32 s1, .int .u32 s2, .int .u32 s3, .int .u32 s4, .int .u32 s5, .int .u32 s6, .int .u32 s7, .slice R0 lr.length cr, .int .u64 m] 172) (.cells #[.int .u32 0, .int .u32 0, .int .u32 0, .int .u32 0, .int .u32 0, .int .u32 0, .int .u32 0, .int .u32 0, .slice none 0 0, .int .u64 0] 172) (.cells #[.slice R0 lr.length cr, .slice A0 l0.length c0] 22)
  have HB0 := Aside0.mk b0
  have HB1 := Aside0.mk b1
  have HB2 := Aside0.mk b2
  have HBB := Aside0.mk bb
  have HBS := Aside0.mk bs
  have HCC := Aside0.mk (show slices_Concat_byte_byte.f [lr, l0] = some (lr ++ l0) by unfold slices_Concat_byte_byte.f; rw [if_pos ⟨by simp, by simpa using HAL.out⟩]; simp)
  have HC2 := Aside0.mk (C_two HB2.out (Kd.C_below HRR.out (HBB.out.mono (Nat.le_refl _))) (Kd.C_below HR0.out HBB.out) HCR.out HC0.out)
  have HK2 := Aside0.mk (slices_Concat_byte_byte.calls (some ⟨w.heap.size + 2, 0, none⟩) 2 [lr, l0] (lr ++ l0) _ HC2.out (Nat.le_refl _) HCC.out)
  clear b0 b1 b2 bb bs hll
  go_enter Try.func140, Try.ntmps140
  go_wp2_with (go_at_call 106; refine Calls.mono HK2.out ?_; rintro e w1 ⟨v1, rfl, ho, hb⟩; obtain ⟨Aw, cw, rfl⟩ := Kd.R_slice ho; have HO := Aside0.mk ho; have HB := Aside0.mk hb; have hd9 := blk_cell (blk_below HB0.out hb) 9; have hf9 := blk_frozen (blk_below HB0.out hb) 9; simp at hd9; clear ho hb)
  obtain ⟨M, hM⟩ : ∃ M, M = IntKind.u64.wrap (m + IntKind.u64.wrap (l0.length : Int)) := ⟨_, rfl⟩
  have HM := Aside0.mk hM
  rw [← hM]
  clear hM hd9 hf9
  have HBX := Aside0.mk ((below_then HBB.out (by have := HBS.out; omega) HB.out).setCell (p := ⟨w.heap.size, 9, none⟩) (Nat.le_refl _) (.int .u64 M))
  have HS := Aside0.mk (show (w1.setCell ⟨w.heap.size, 9, none⟩ (.int .u64 M)).heap[w.heap.size]? = some (.cells (hs10 s0 s1 s2 s3 s4 s5 s6 s7 (.slice R0 lr.length cr) M) 172 (0, 0)) from blk_put (cs' := hs10 s0 s1 s2 s3 s4 s5 s6 s7 (.slice R0 lr.length cr) M) (blk_below HB0.out HB.out) 9 _ rfl)
  have HS1 := Aside0.mk (show (w1.setCell ⟨w.heap.size, 9, none⟩ (.int .u64 M)).heap[w.heap.size + 1]? = some (.cells (hs10 0 0 0 0 0 0 0 0 (.slice none 0 0) 0) 172 (0, 0)) from blk_far (blk_below HB1.out HB.out) (by show w.heap.size + 1 ≠ w.heap.size; omega) _)
  have HF := Aside0.mk (Kd.F_far (Kd.F_mono (ok' := fun k => k ≠ w.heap.size) (Kd.R_F (Kd.R_bound HO.out)) (fun k hk => by have h1 := hk.2.1; rw [HBS.out] at h1; omega)) (p := ⟨w.heap.size, 9, none⟩) (fun k hk => hk) (.int .u64 M))
  have HLW := Aside0.mk (show (lr ++ l0).length ≤ cw from (Kd.R_reads' HO.out).2.1)
  go_loopg [6] ((lr ++ l0).length + 1) (fun kq v6 wr => ∃ (a b c d e f g hh : Int) (A : Option Addr) (cp : Nat) (al : List Int), v6 = .slice A al.length cp ∧ Aside0 (al.length ≤ cp) ∧ Aside0 (mo.l0 k kq [a, b, c, d, e, f, g, hh] al = some (s', rest)) ∧ Aside0 (kq ≤ (lr ++ l0).length + 1) ∧ Aside0 (Kd.F (Kd.int .u8) wr (fun k => k ≠ w.heap.size) A al.length al) ∧ Aside0 (wr.heap[w.heap.size]? = some (.cells (hs10 a b c d e f g hh (.slice R0 lr.length cr) M) 172 (0, 0))) ∧ Aside0 (wr.heap[w.heap.size + 1]? = some (.cells (hs10 0 0 0 0 0 0 0 0 (.slice none 0 0) 0) 172 (0, 0))) ∧ Aside0 (Below w.heap.size w wr))
  case atStart => exact ⟨s0, s1, s2, s3, s4, s5, s6, s7, Aw, cw, lr ++ l0, by rw [List.length_append], HLW, H, ⟨Nat.le_refl _⟩, HF, HS, HS1, HBX⟩
  case round =>
    obtain ⟨a, b, c, d, e, f, g, hh, A, cp, al, rfl, HCP, HA, HK, HF3, HT0, HT1, HBW⟩ := hrel
    cases gk with
    | zero => exact absurd HA.out (by simp [mo.l0])
    | succ k1 =>
      have H := HA.out
      simp only [mo.l0] at H
      have hc0 : wr.cell? ⟨w.heap.size, 0, none⟩ = some (.int .u32 a) := (blk_cell HT0.out 0).trans rfl
      have hc1 : wr.cell? ⟨w.heap.size, 1, none⟩ = some (.int .u32 b) := (blk_cell HT0.out 1).trans rfl
      have hc2 : wr.cell? ⟨w.heap.size, 2, none⟩ = some (.int .u32 c) := (blk_cell HT0.out 2).trans rfl
      have hc3 : wr.cell? ⟨w.heap.size, 3, none⟩ = some (.int .u32 d) := (blk_cell HT0.out 3).trans rfl
      have hc4 : wr.cell? ⟨w.heap.size, 4, none⟩ = some (.int .u32 e) := (blk_cell HT0.out 4).trans rfl
      have hc5 : wr.cell? ⟨w.heap.size, 5, none⟩ = some (.int .u32 f) := (blk_cell HT0.out 5).trans rfl
      have hc6 : wr.cell? ⟨w.heap.size, 6, none⟩ = some (.int .u32 g) := (blk_cell HT0.out 6).trans rfl
      have hc7 : wr.cell? ⟨w.heap.size, 7, none⟩ = some (.int .u32 hh) := (blk_cell HT0.out 7).trans rfl
      by_cases d1 : 64 ≤ al.length
      · rw [if_pos d1] at H
        obtain ⟨sq, hs2, H⟩ := Option.bind_eq_some_iff.1 H
        have HS2 := Aside0.mk hs2
        have HH := Aside0.mk H
        clear hs2 H
        have c2 : decide ((64 : Int) ≤ (al.length : Int)) = true := decide_eq_true (by omega)
        have hl64 : (al.take 64).length = 64 := by rw [List.length_take]; omega
        have HTK := Aside0.mk (Kd.F_take HF3.out d1)
        have p1 := eq_true (show (64 : Int) ≤ (cp : Int) by have := HCP.out; omega)
        have p2 := eq_true (show (64 : Nat) ≤ cp by have := HCP.out; omega)
        have p3 := eq_true d1
        have hcall := sb.call k [a, b, c, d, e, f, g, hh] A cp (al.take 64) sq wr.drew (Kd.C_drew (Kd.C_below HLD.out (HBW.out.mono (Nat.le_refl _)))) (Kd.C_drew (Kd.F_now HTK.out)) (by rw [hl64]; have := HCP.out; omega) HS2.out
        rw [hl64] at hcall
        have HCL := Aside0.mk hcall
        clear hcall
        have hb8 := Aside0.mk (sb.eight HS2.out)
        go_wp2
        go_region_law (refine goes_ Try.func144 (by kernel_rfl) rfl #[.agg (st8 a b c d e f g hh), .slice A 64 cp] (by first | rfl | (simp [Region.wanted, yielded, *]; done)) rfl rfl (by (try simp only [List.map_toArray, List.map_cons, List.map_nil]); first | done | rfl) ?_; refine Calls.mono HCL.out ?_; rintro ee w4 ⟨rfl, hb4⟩; refine ⟨_, rfl, ?_⟩; have HB4 := Aside0.mk hb4; have HT4 := Aside0.mk (blk_below (show wr.drew.heap[w.heap.size]? = _ from HT0.out) hb4); have he0 : w4.cell? ⟨w.heap.size, 0, none⟩ = some (.int .u32 a) := (blk_cell HT4.out 0).trans rfl; have he1 : w4.cell? ⟨w.heap.size, 1, none⟩ = some (.int .u32 b) := (blk_cell HT4.out 1).trans rfl; have he2 : w4.cell? ⟨w.heap.size, 2, none⟩ = some (.int .u32 c) := (blk_cell HT4.out 2).trans rfl; have he3 : w4.cell? ⟨w.heap.size, 3, none⟩ = some (.int .u32 d) := (blk_cell HT4.out 3).trans rfl; have he4 : w4.cell? ⟨w.heap.size, 4, none⟩ = some (.int .u32 e) := (blk_cell HT4.out 4).trans rfl; have he5 : w4.cell? ⟨w.heap.size, 5, none⟩ = some (.int .u32 f) := (blk_cell HT4.out 5).trans rfl; have he6 : w4.cell? ⟨w.heap.size, 6, none⟩ = some (.int .u32 g) := (blk_cell HT4.out 6).trans rfl; have he7 : w4.cell? ⟨w.heap.size, 7, none⟩ = some (.int .u32 hh) := (blk_cell HT4.out 7).trans rfl; have hf0 := blk_frozen HT4.out 0; have hf1 := blk_frozen HT4.out 1; have hf2 := blk_frozen HT4.out 2; have hf3 := blk_frozen HT4.out 3; have hf4 := blk_frozen HT4.out 4; have hf5 := blk_frozen HT4.out 5; have hf6 := blk_frozen HT4.out 6; have hf7 := blk_frozen HT4.out 7; clear hb4; unfold stl st8)
        have HCUT := Aside0.mk (Kd.F_cut HF3.out d1 HCP.out)
        have hdl : (al.drop 64).length = al.length - 64 := List.length_drop
        go_wp2
        · have HC5 := HCUT.out
          rw [if_pos (by assumption)] at HC5
          go_roundg k1
          case measure => have := HK.out; omega
          case rel =>
            refine ⟨sq[0]?.getD 0, sq[1]?.getD 0, sq[2]?.getD 0, sq[3]?.getD 0, sq[4]?.getD 0, sq[5]?.getD 0, sq[6]?.getD 0, sq[7]?.getD 0, A, 0, al.drop 64, congrArg (fun n => Value.slice (A) n (0)) hdl.symm, ⟨by have := HCP.out; omega⟩, ⟨hb8.out ▸ HH.out⟩, ⟨by have := HK.out; omega⟩, ⟨?_⟩, ⟨set10 HT4.out _ _ _ _ _ _ _ _⟩, ⟨?_⟩, ⟨set8_below ((below_drew HBW.out).trans (HB4.out.mono HBW.out.size)) (Nat.le_refl _) _ _ _ _ _ _ _ _⟩⟩
            · exact set8_far (Kd.F_below (Kd.F_drew HC5) HB4.out) (fun k hk => hk) _ _ _ _ _ _ _ _
            · exact set8_other (by omega) (blk_below (show wr.drew.heap[w.heap.size + 1]? = _ from HT1.out) HB4.out) _ _ _ _ _ _ _ _
        · have HC5 := HCUT.out
          rw [if_neg (by assumption)] at HC5
          go_roundg k1
          case measure => have := HK.out; omega
          case rel =>
            refine ⟨sq[0]?.getD 0, sq[1]?.getD 0, sq[2]?.getD 0, sq[3]?.getD 0, sq[4]?.getD 0, sq[5]?.getD 0, sq[6]?.getD 0, sq[7]?.getD 0, A.map (fun x => x.add (64 * (Kd.int .u8).sz)), cp - 64, al.drop 64, congrArg (fun n => Value.slice (A.map (fun x => x.add (64 * (Kd.int .u8).sz))) n (cp - 64)) hdl.symm, ⟨by have := HCP.out; omega⟩, ⟨hb8.out ▸ HH.out⟩, ⟨by have := HK.out; omega⟩, ⟨?_⟩, ⟨set10 HT4.out _ _ _ _ _ _ _ _⟩, ⟨?_⟩, ⟨set8_below ((below_drew HBW.out).trans (HB4.out.mono HBW.out.size)) (Nat.le_refl _) _ _ _ _ _ _ _ _⟩⟩
            · exact set8_far (Kd.F_below (Kd.F_drew HC5) HB4.out) (fun k hk => hk) _ _ _ _ _ _ _ _
            · exact set8_other (by omega) (blk_below (show wr.drew.heap[w.heap.size + 1]? = _ from HT1.out) HB4.out) _ _ _ _ _ _ _ _
      · rw [if_neg d1] at H
        obtain ⟨rfl, rfl⟩ : [a, b, c, d, e, f, g, hh] = s' ∧ al = rest := by simpa using H
        have c2 : decide ((64 : Int) ≤ (al.length : Int)) = false := decide_eq_false (by omega)
        have HCX := Aside0.mk (Kd.F_now HF3.out)
        have HCLN := Aside0.mk (slices_Clone_byte_byte.calls A cp al al wr HCX.out HCP.out (by unfold slices_Clone_byte_byte.f; rw [if_pos (by omega)]))
        go_wp2_with (go_at_call 90; refine Calls.mono HCLN.out ?_; rintro ee w5 ⟨v5, rfl, ho5, hb5⟩; obtain ⟨A5, c5, rfl⟩ := Kd.R_slice ho5; have HO5 := Aside0.mk ho5; have HB5 := Aside0.mk hb5; have HT5 := Aside0.mk (blk_below HT0.out hb5); have HT6 := Aside0.mk (blk_below HT1.out hb5); clear ho5 hb5; have k0 : w5.cell? ⟨w.heap.size, 0, none⟩ = some (.int .u32 a) := (blk_cell HT5.out 0).trans rfl; have k1 : w5.cell? ⟨w.heap.size, 1, none⟩ = some (.int .u32 b) := (blk_cell HT5.out 1).trans rfl; have k2 : w5.cell? ⟨w.heap.size, 2, none⟩ = some (.int .u32 c) := (blk_cell HT5.out 2).trans rfl; have k3 : w5.cell? ⟨w.heap.size, 3, none⟩ = some (.int .u32 d) := (blk_cell HT5.out 3).trans rfl; have k4 : w5.cell? ⟨w.heap.size, 4, none⟩ = some (.int .u32 e) := (blk_cell HT5.out 4).trans rfl; have k5 : w5.cell? ⟨w.heap.size, 5, none⟩ = some (.int .u32 f) := (blk_cell HT5.out 5).trans rfl; have k6 : w5.cell? ⟨w.heap.size, 6, none⟩ = some (.int .u32 g) := (blk_cell HT5.out 6).trans rfl; have k7 : w5.cell? ⟨w.heap.size, 7, none⟩ = some (.int .u32 hh) := (blk_cell HT5.out 7).trans rfl; have k8 : w5.cell? ⟨w.heap.size, 8, none⟩ = some (.slice R0 lr.length cr) := (blk_cell HT5.out 8).trans rfl; have k9 : w5.cell? ⟨w.heap.size, 9, none⟩ = some (.int .u64 M) := (blk_cell HT5.out 9).trans rfl; have kf8 := blk_frozen HT5.out 8; have q0 : w5.cell? ⟨w.heap.size + 1, 0, none⟩ = some (.int .u32 0) := (blk_cell HT6.out 0).trans rfl; have qf0 := blk_frozen HT6.out 0; have q1 : w5.cell? ⟨w.heap.size + 1, 1, none⟩ = some (.int .u32 0) := (blk_cell HT6.out 1).trans rfl; have qf1 := blk_frozen HT6.out 1; have q2 : w5.cell? ⟨w.heap.size + 1, 2, none⟩ = some (.int .u32 0) := (blk_cell HT6.out 2).trans rfl; have qf2 := blk_frozen HT6.out 2; have q3 : w5.cell? ⟨w.heap.size + 1, 3, none⟩ = some (.int .u32 0) := (blk_cell HT6.out 3).trans rfl; have qf3 := blk_frozen HT6.out 3; have q4 : w5.cell? ⟨w.heap.size + 1, 4, none⟩ = some (.int .u32 0) := (blk_cell HT6.out 4).trans rfl; have qf4 := blk_frozen HT6.out 4; have q5 : w5.cell? ⟨w.heap.size + 1, 5, none⟩ = some (.int .u32 0) := (blk_cell HT6.out 5).trans rfl; have qf5 := blk_frozen HT6.out 5; have q6 : w5.cell? ⟨w.heap.size + 1, 6, none⟩ = some (.int .u32 0) := (blk_cell HT6.out 6).trans rfl; have qf6 := blk_frozen HT6.out 6; have q7 : w5.cell? ⟨w.heap.size + 1, 7, none⟩ = some (.int .u32 0) := (blk_cell HT6.out 7).trans rfl; have qf7 := blk_frozen HT6.out 7; have q8 : w5.cell? ⟨w.heap.size + 1, 8, none⟩ = some (.slice none 0 0) := (blk_cell HT6.out 8).trans rfl; have qf8 := blk_frozen HT6.out 8; have q9 : w5.cell? ⟨w.heap.size + 1, 9, none⟩ = some (.int .u64 0) := (blk_cell HT6.out 9).trans rfl; have qf9 := blk_frozen HT6.out 9)
        have hsz := blk_lt HT1.out
        have hmm : M = (m + (l0.length : Int)) % 18446744073709551616 := by
          rw [HM.out]
          simp [IntKind.wrap, IntKind.bits, IntKind.signed]
        refine bodyPost_ret (results_ct rfl _ _ (w.heap.size + 1) 172 _ (0, 0) _ rfl (set10all (blk_far HT6.out (show w.heap.size + 1 ≠ w.heap.size by omega) _) _ _ _ _ _ _ _ _ _ _) Try.underlying172 rfl (by kernel_rfl)) rfl ?_
        refine ⟨.slice A5 al.length c5, by rw [hmm]; rfl, Kd.R_mono (ok := fun k => wr.heap.size ≤ k) (set10all_R (Kd.R_far (Kd.R_lower (Kd.R_mono (Kd.R_bound HO5.out) (fun k hk => hk.2.1)) (by omega)) (p := ⟨w.heap.size, 8, none⟩) (fun k hk => by show k ≠ w.heap.size; omega) _) (fun k hk => by omega) _ _ _ _ _ _ _ _ _ _) (fun _ _ => trivial), ?_⟩
        exact set10all_below ((HBW.out.trans (HB5.out.mono HBW.out.size)).setCell (p := ⟨w.heap.size, 8, none⟩) (Nat.le_refl _) _) (Nat.le_succ _) _ _ _ _ _ _ _ _ _ _
def n8 (s : List Int) : List Int := [s[0]?.getD 0, s[1]?.getD 0, s[2]?.getD 0, s[3]?.getD 0, s[4]?.getD 0, s[5]?.getD 0, s[6]?.getD 0, s[7]?.getD 0]
theorem mo.call (k : Nat) (s : List Int) (R0 : Option Addr) (cr : Nat) (lr : List Int) (m : Int) (A0 : Option Addr) (c0 : Nat) (l0 : List Int) (r : List Int × List Int) (w : World) (hL0 : Kd.C (Kd.int .u32) w (some ⟨1, 0, none⟩) 64 shaK) (hrr : Kd.C (Kd.int .u8) w R0 lr.length lr) (hcr : lr.length ≤ cr) (hr0 : Kd.C (Kd.int .u8) w A0 l0.length l0) (hc0 : l0.length ≤ c0)
    (h : mo.f k (n8 s) lr l0 = some r) :
    Calls Try.prog 140 #[.agg (hsl s (.slice R0 lr.length cr) m), .slice A0 l0.length c0] w fun e w' => ∃ v0_ : Value, e = .returned (.tuple #[.agg (hsl r.1 v0_ ((m + (l0.length : Int)) % 18446744073709551616)), .int .i64 0]) ∧ Kd.R (Kd.int .u8) 5 w' w.heap.size (fun _ => True) v0_ r.2 ∧ Below w.heap.size w w' := by
  unfold mo.f at h
  by_cases hc : lr.length < 64 ∧ (lr ++ l0).length < 140737488355328
  · rw [if_pos hc] at h
    exact mo.walk k _ _ _ _ _ _ _ _ R0 cr lr m A0 c0 l0 r.1 r.2 w hL0 hrr hcr hr0 hc0 hc.1 hc.2 h
  · rw [if_neg hc] at h; cases h
theorem run_copy_ints {P : Program} (W : World) (dT sT ty elem : TypeId) (g o dLen dCap : Nat) (A : Option Addr) (sLen sCap : Nat) (xs ys : List Int) (t : TypeId) (n : Nat)
    (hu : P.underlying dT = some (.slice elem)) (hs : (P.info? elem).map (·.size) = some 1)
    (hg : W.heap[g]? = some (.cells (xs.map (Value.int .u8)).toArray t (0, 0))) (hn : n = min sLen dLen) (hC : Kd.C (Kd.int .u8) W A sLen ys) (hfit : o + n ≤ xs.length) :
    ∃ w', (Builtin.copy_ #[dT, sT] ty #[.slice (some ⟨g, o, none⟩) dLen dCap, .slice A sLen sCap]).run P W = .ok (goInt n) w' ∧ w'.heap[g]? = some (.cells ((xs.take o ++ ys.take n ++ xs.drop (o + n)).map (Value.int .u8)).toArray t (0, 0)) ∧ W.grownBy w' (some g) := by
  rcases Nat.eq_zero_or_pos n with h0 | hp
  · subst h0
    have h := run_copy_none (P := P) W dT sT ty elem (some ⟨g, o, none⟩) A dLen dCap sLen sCap hu hs (by have : min sLen dLen = 0 := hn.symm; omega)
    refine ⟨W, ?_, ?_, World.grownBy.refl W _⟩
    · simpa [goInt] using h
    · simpa using hg
  · obtain ⟨ad, rfl, hcell⟩ := hC.2.2 (by omega)
    have hyl := hC.1
    have hcs : ((ys.take n).map (Value.int .u8)).length = n := by simp; omega
    have h := run_copy_row (P := P) W dT sT ty elem g o dLen dCap ad sLen sCap (xs.map (Value.int .u8)).toArray t ((ys.take n).map (Value.int .u8)) hu hs hg (by rw [hcs, hn]) (fun j v hv => by
      rw [List.getElem?_map] at hv
      obtain ⟨y, hy, rfl⟩ := Option.map_eq_some_iff.1 hv
      have hy' : ys[j]? = some y := by
        rw [List.getElem?_take] at hy
        split at hy
        · exact hy
        · cases hy
      obtain ⟨c, hcl, hcc, hi⟩ := hcell j y hy'
      have := hi 0 (.int .u8 y) (by rw [show c = [.int .u8 y] from hcc]; rfl)
      simpa [Kd.int, Kd.scalar] using this) (by rw [hcs]; simpa using hfit) (fun v hv => by
      rw [List.mem_map] at hv
      obtain ⟨y, _, rfl⟩ := hv
      rfl)
    rw [hcs] at h
    refine ⟨_, h, ?_, ⟨rfl, rfl, rfl, by simp [World.setRow], fun k hk hne => setRow_other W g k _ (fun e => hne (by rw [e]))⟩⟩
    have := setRow_heap W g _ (((xs.map (Value.int .u8)).toArray.toList.take o ++ (ys.take n).map (Value.int .u8) ++ (xs.map (Value.int .u8)).toArray.toList.drop (o + n)).toArray) t _ hg
    rw [this]
    simp [List.map_take, List.map_drop]
theorem list_copy_ints {P : Program} {ops : Array Oper} {rest : List Oper} {o : Oper} {a : Act} {w : World} {Q : Exit → Act → World → Prop} (hgd : o.guard = none) (d s : Operand) (dT sT : TypeId)
    (ho : o.op = .call { callee := .builtin .copy, args := #[d, s], argTypes := #[dT, sT] }) (elem : TypeId) (hu : P.underlying dT = some (.slice elem)) (hsz : (P.info? elem).map (·.size) = some 1)
    (g off dLen dCap sLen sCap : Nat) (A : Option Addr) (xs ys : List Int) (t : TypeId) (n : Nat) (hd : a.eval d = .slice (some ⟨g, off, none⟩) dLen dCap) (hs : a.eval s = .slice A sLen sCap)
    (hg : w.heap[g]? = some (.cells (xs.map (Value.int .u8)).toArray t (0, 0))) (hn : n = min sLen dLen) (hC : Kd.C (Kd.int .u8) w A sLen ys) (hfit : off + n ≤ xs.length)
    (h : ∀ w', RowKit.Hid (w'.heap[g]? = some (.cells ((xs.take off ++ ys.take n ++ xs.drop (off + n)).map (Value.int .u8)).toArray t (0, 0))) → w.grownBy w' (some g) → wpList P ops Q rest (a.put o.dst (.int .i64 (n : Int))) w') :
    wpList P ops Q (o :: rest) a w := by
  obtain ⟨w', hrun, hh, hgr⟩ := run_copy_ints (P := P) w dT sT o.type elem g off dLen dCap A sLen sCap xs ys t n hu hsz hg hn hC hfit
  refine wpList_plain hgd fun K hK => ?_
  unfold Oper.wp
  simp [execOp, ho, resolve, invoke, builtin, hd, hs, hrun, Result.andThen]
  exact hK _ _ (h _ hh hgr)
theorem step_copy_ints {P : Program} {ops : Array Oper} {o : Oper} {a : Act} {w : World} {K : Act → World → Prop} {Q : Exit → Act → World → Prop} {E : Prop} (hgd : o.guard = none) (d s : Operand) (dT sT : TypeId)
    (ho : o.op = .call { callee := .builtin .copy, args := #[d, s], argTypes := #[dT, sT] }) (elem : TypeId) (hu : P.underlying dT = some (.slice elem)) (hsz : (P.info? elem).map (·.size) = some 1)
    (g off dLen dCap sLen sCap : Nat) (A : Option Addr) (xs ys : List Int) (t : TypeId) (n : Nat) (hd : a.eval d = .slice (some ⟨g, off, none⟩) dLen dCap) (hs : a.eval s = .slice A sLen sCap)
    (hg : w.heap[g]? = some (.cells (xs.map (Value.int .u8)).toArray t (0, 0))) (hn : n = min sLen dLen) (hC : Kd.C (Kd.int .u8) w A sLen ys) (hfit : off + n ≤ xs.length)
    (h : ∀ w', RowKit.Hid (w'.heap[g]? = some (.cells ((xs.take off ++ ys.take n ++ xs.drop (off + n)).map (Value.int .u8)).toArray t (0, 0))) → w.grownBy w' (some g) → K (a.put o.dst (.int .i64 (n : Int))) w') :
    if Region.wanted o (yielded ops a.tmps) = true then Oper.wp P o a w K Q else E := by
  obtain ⟨w', hrun, hh, hgr⟩ := run_copy_ints (P := P) w dT sT o.type elem g off dLen dCap A sLen sCap xs ys t n hu hsz hg hn hC hfit
  have hw : Region.wanted o (yielded ops a.tmps) = true := by simp [Region.wanted, hgd]
  rw [if_pos hw]
  unfold Oper.wp
  simp [execOp, ho, resolve, invoke, builtin, hd, hs, hrun, Result.andThen]
  exact h _ hh hgr
theorem blk_C {w : World} {g : Nat} {k : IntKind} {L : List Int} {t : TypeId} (h : w.heap[g]? = some (.cells (L.map (Value.int k)).toArray t (0, 0))) (hl : L.length ≤ 9223372036854775807) : Kd.C (Kd.int k) w (some ⟨g, 0, none⟩) L.length L := by
  refine ⟨rfl, hl, fun _ => ⟨_, rfl, fun j p hj => ⟨[.int k p], rfl, rfl, fun i u hu => ?_⟩⟩⟩
  match i, hu with
  | 0, hu =>
    obtain rfl := Option.some.inj hu
    rw [add_plain, blk_cell h]
    simp [Kd.int, Kd.scalar, hj]
def en.last (lr : List Int) : List Int := (lr ++ List.replicate (64 - lr.length) 0).set lr.length 128
/-- A row's cells. -/
def rc (L : List Int) : Array Value := (L.map (Value.int .u8)).toArray
def z64 : List Int := List.replicate 64 0
theorem mk64 (W : World) : (Instr.makeSlice 22 (.int .i64 64) (.int .i64 64)).run Try.prog W = .ok (.slice (some ⟨W.heap.size, 0, none⟩) 64 64) (W.alloc (.cells (rc z64) 5)) := by
  obtain ⟨i0, hi, hzz⟩ := Option.map_eq_some_iff.1 info5
  simp only [Prod.mk.injEq] at hzz
  obtain ⟨hz0, hz1, hz2⟩ := hzz
  have h := run_make (P := Try.prog) W 22 5 i0 (.int .u8 0) Try.underlying22 hi hz0 .i64 .i64 64 64 (by omega) (by omega) (by rw [hz2]; omega) (by omega)
  rw [h, hz1]
  have e : madeCells (Value.int IntKind.u8 0).cells (Int.toNat 64 * 1) = rc z64 := by kernel_rfl
  rw [e]
  rfl
theorem en.at (lr : List Int) (h : lr.length < 64) : (rc (z64.take 0 ++ lr.take lr.length ++ z64.drop (0 + lr.length)))[lr.length]? = some (.int .u8 0) := by
  have h1 : (z64.take 0 ++ lr.take lr.length ++ z64.drop (0 + lr.length))[lr.length]? = some 0 := by
    rw [List.take_zero, List.nil_append, List.take_length, List.getElem?_append_right (Nat.le_refl _), Nat.sub_self, List.getElem?_drop]
    unfold z64
    rw [List.getElem?_replicate, if_pos (by omega)]
  unfold rc
  simp only [List.getElem?_toArray, List.getElem?_map, h1]
  rfl
theorem setCell_size (w : World) (p : Addr) (v : Value) : (w.setCell p v).heap.size = w.heap.size := by simp [World.setCell]
theorem en.set (lr : List Int) (h : lr.length < 64) : (rc (z64.take 0 ++ lr.take lr.length ++ z64.drop (0 + lr.length))).setIfInBounds lr.length (.int .u8 128) = rc (en.last lr) := by
  have e : z64.take 0 ++ lr.take lr.length ++ z64.drop (0 + lr.length) = lr ++ List.replicate (64 - lr.length) 0 := by
    unfold z64
    rw [List.take_zero, List.nil_append, List.take_length, Nat.zero_add, List.drop_replicate]
  rw [e]
  unfold rc en.last
  rw [List.map_set]
  simp
set_option maxHeartbeats 8000000 in
set_option maxRecDepth 100000 in
theorem en.short (k : Nat) (s0 s1 s2 s3 s4 s5 s6 s7 : Int) (R0 : Option Addr) (cr : Nat) (lr : List Int) (m : Int) (r : List Int) (w : World) (hL0 : Kd.C (Kd.int .u32) w (some ⟨1, 0, none⟩) 64 shaK) (hrr : Kd.C (Kd.int .u8) w R0 lr.length lr) (hcr : lr.length ≤ cr)
    (hlr : lr.length < 56) (p s2' : List Int) (hp : word_Put.f k (m * 8 % 18446744073709551616) = some p) (hpl : p.length = 8) (hb : sb.f k [s0, s1, s2, s3, s4, s5, s6, s7] ((en.last lr).take 56 ++ p) = some s2') (hw : word_Bytes.f k s2' = some r) :
    Calls Try.prog 142 #[.agg (hs10 s0 s1 s2 s3 s4 s5 s6 s7 (.slice R0 lr.length cr) m)] w fun e w' => ∃ v0_ : Value, e = .returned (.tuple #[v0_, .int .i64 0]) ∧ Kd.R (Kd.int .u8) 5 w' w.heap.size (fun _ => True) v0_ r ∧ Below w.heap.size w w' := by
  have HLD := Aside0.mk hL0
  have HRR := Aside0.mk hrr
  have HCR := Aside0.mk hcr
  have HLR := Aside0.mk hlr
  have HL64 := Aside0.mk (show lr.length < 64 by omega)
  have c1 : decide (64 ≤ (lr.length : Int)) = false := decide_eq_false (by omega)
  have c2 : decide (56 ≤ (lr.length : Int)) = false := decide_eq_false (by omega)
  have HP := Aside0.mk hp
  have HBK := Aside0.mk hb
  have HW := Aside0.mk hw
  have HPL := Aside0.mk hpl
  obtain ⟨b0, b1, bb, bs⟩ := two w (.cells #[.int .u32 s0, .int .u32 s1, .int .u32 s2, .int .u32 s3, .int .u32 s4, .int .u32 s5, .int .u32 s6, .int .u32 s7, .slice R0 lr.length cr, .int .u64 m] 172) (.cells (rc z64) 5)
  have HB0 := Aside0.mk b0
  have HB1 := Aside0.mk b1
  have HBB := Aside0.mk bb
  have HBS := Aside0.mk bs
  have p1 := eq_true (show (lr.length : Int) < 64 by omega)
  have p2 := eq_true (show (0 : Int) ≤ (lr.length : Int) by omega)
  have hmk := mk64
  clear hL0 hrr hcr hlr hp hb hw hpl b0 b1 bb bs
  unfold hs10
  go_enter Try.func142, Try.ntmps142
  go_wp2_with ((with_reducible refine gate_builtin (b := .copy) (xs := #[.tmp 12, .tmp 14]) rfl ?_); go_loud (refine list_copy_ints rfl (.tmp 12) (.tmp 14) 22 22 rfl 5 Try.underlying22 (by kernel_rfl) (w.heap.size + 1) 0 64 64 lr.length cr R0 z64 lr 5 lr.length rfl rfl HB1.out (by have := HLR.out; omega) (Kd.C_below HRR.out HBB.out) (by have := HLR.out; show 0 + lr.length ≤ 64; omega) ?_; intro w2 h2 hg2; have HG2 := Aside0.mk hg2; have HL2 := Aside0.mk (show w2.heap[w.heap.size + 1]? = some (.cells (rc (z64.take 0 ++ lr.take lr.length ++ z64.drop (0 + lr.length))) 5 (0, 0)) from h2); have hx2 : w2.cell? ⟨w.heap.size + 1, lr.length, none⟩ = some (.int .u8 0) := (blk_cell HL2.out lr.length).trans (en.at _ HL64.out); have hy2 := blk_frozen HL2.out lr.length; have HM2 := Aside0.mk (blk_grown HB0.out hg2 (by simp)); have k0 : w2.cell? ⟨w.heap.size, 0, none⟩ = some (.int .u32 s0) := (blk_cell HM2.out 0).trans rfl; have k1 : w2.cell? ⟨w.heap.size, 1, none⟩ = some (.int .u32 s1) := (blk_cell HM2.out 1).trans rfl; have k2 : w2.cell? ⟨w.heap.size, 2, none⟩ = some (.int .u32 s2) := (blk_cell HM2.out 2).trans rfl; have k3 : w2.cell? ⟨w.heap.size, 3, none⟩ = some (.int .u32 s3) := (blk_cell HM2.out 3).trans rfl; have k4 : w2.cell? ⟨w.heap.size, 4, none⟩ = some (.int .u32 s4) := (blk_cell HM2.out 4).trans rfl; have k5 : w2.cell? ⟨w.heap.size, 5, none⟩ = some (.int .u32 s5) := (blk_cell HM2.out 5).trans rfl; have k6 : w2.cell? ⟨w.heap.size, 6, none⟩ = some (.int .u32 s6) := (blk_cell HM2.out 6).trans rfl; have k7 : w2.cell? ⟨w.heap.size, 7, none⟩ = some (.int .u32 s7) := (blk_cell HM2.out 7).trans rfl; have k8 : w2.cell? ⟨w.heap.size, 8, none⟩ = some (.slice R0 lr.length cr) := (blk_cell HM2.out 8).trans rfl; have k9 : w2.cell? ⟨w.heap.size, 9, none⟩ = some (.int .u64 m) := (blk_cell HM2.out 9).trans rfl; have HX3 := Aside0.mk (show ((w2.setCell ⟨w.heap.size + 1, lr.length, none⟩ (.int .u8 128)).alloc (.cells #[.int .u32 s0, .int .u32 s1, .int .u32 s2, .int .u32 s3, .int .u32 s4, .int .u32 s5, .int .u32 s6, .int .u32 s7] 170)).heap[w.heap.size]? = some (.cells (hs10 s0 s1 s2 s3 s4 s5 s6 s7 (.slice R0 lr.length cr) m) 172 (0, 0)) from blk_alloc (blk_far HM2.out (show w.heap.size ≠ w.heap.size + 1 by omega) _) _); have HY3 := Aside0.mk (show ((w2.setCell ⟨w.heap.size + 1, lr.length, none⟩ (.int .u8 128)).alloc (.cells #[.int .u32 s0, .int .u32 s1, .int .u32 s2, .int .u32 s3, .int .u32 s4, .int .u32 s5, .int .u32 s6, .int .u32 s7] 170)).heap[w.heap.size + 1]? = some (.cells (rc (en.last lr)) 5 (0, 0)) from blk_alloc (blk_put HL2.out lr.length _ (en.set lr HL64.out)) _); have HZ3 := Aside0.mk (show ((w2.setCell ⟨w.heap.size + 1, lr.length, none⟩ (.int .u8 128)).alloc (.cells #[.int .u32 s0, .int .u32 s1, .int .u32 s2, .int .u32 s3, .int .u32 s4, .int .u32 s5, .int .u32 s6, .int .u32 s7] 170)).heap[w2.heap.size]? = some (.cells (st8 s0 s1 s2 s3 s4 s5 s6 s7) 170 (0, 0)) from by have hn3 := blk_new (w2.setCell ⟨w.heap.size + 1, lr.length, none⟩ (.int .u8 128)) (.cells #[.int .u32 s0, .int .u32 s1, .int .u32 s2, .int .u32 s3, .int .u32 s4, .int .u32 s5, .int .u32 s6, .int .u32 s7] 170); rw [setCell_size] at hn3; exact hn3); have j8 : ((w2.setCell ⟨w.heap.size + 1, lr.length, none⟩ (.int .u8 128)).alloc (.cells #[.int .u32 s0, .int .u32 s1, .int .u32 s2, .int .u32 s3, .int .u32 s4, .int .u32 s5, .int .u32 s6, .int .u32 s7] 170)).cell? ⟨w.heap.size, 8, none⟩ = some (.slice R0 lr.length cr) := (blk_cell HX3.out 8).trans rfl; have j9 : ((w2.setCell ⟨w.heap.size + 1, lr.length, none⟩ (.int .u8 128)).alloc (.cells #[.int .u32 s0, .int .u32 s1, .int .u32 s2, .int .u32 s3, .int .u32 s4, .int .u32 s5, .int .u32 s6, .int .u32 s7] 170)).cell? ⟨w.heap.size, 9, none⟩ = some (.int .u64 m) := (blk_cell HX3.out 9).trans rfl; have HB3 := Aside0.mk (show Below w.heap.size w ((w2.setCell ⟨w.heap.size + 1, lr.length, none⟩ (.int .u8 128)).alloc (.cells #[.int .u32 s0, .int .u32 s1, .int .u32 s2, .int .u32 s3, .int .u32 s4, .int .u32 s5, .int .u32 s6, .int .u32 s7] 170)) from ((HBB.out.grown hg2 (by have := HBS.out; omega) (fun k hk => by cases hk; omega)).setCell (p := ⟨w.heap.size + 1, lr.length, none⟩) (by show w.heap.size ≤ w.heap.size + 1; omega) _).alloc (by rw [setCell_size]; have := blk_lt HM2.out; omega) _); clear h2 hg2))
  have HPW := Aside0.mk (show word_Put.f k (IntKind.u64.wrap (m * 8)) = some p from by have h0 := HP.out; rw [show IntKind.u64.wrap (m * 8) = m * 8 % 18446744073709551616 by simp [IntKind.wrap, IntKind.bits, IntKind.signed]]; exact h0)
  have HGE := Aside0.mk (show w.heap.size ≤ w2.heap.size by have := blk_lt HL2.out; omega)
  have HWB := Aside0.mk (sb.eight HBK.out ▸ HW.out)
  have HNE := Aside0.mk (show w2.heap.size ≠ w.heap.size + 1 by have := blk_lt HL2.out; omega)
  have hlll : (en.last lr).length = 64 := by unfold en.last; simp; have := HLR.out; omega
  go_region_law (first | (refine goes_ Try.func38 (by kernel_rfl) rfl #[.int .u64 (IntKind.u64.wrap (m * 8))] (by first | rfl | (simp [Region.wanted, yielded, *]; done)) rfl rfl (by (try simp only [List.map_toArray, List.map_cons, List.map_nil]); first | done | rfl) ?_; refine Calls.mono (word_Put.calls k _ p _ HPW.out) ?_; rintro ee w6 ⟨v6, rfl, ho6, hb6⟩; obtain ⟨A6, c6, rfl⟩ := Kd.R_slice ho6; refine ⟨_, rfl, ?_⟩; have HO6 := Aside0.mk ho6; have HB6 := Aside0.mk hb6; have HX6 := Aside0.mk (blk_below (w := World.drew ((w2.setCell ⟨w.heap.size + 1, lr.length, none⟩ (.int .u8 128)).alloc (.cells #[.int .u32 s0, .int .u32 s1, .int .u32 s2, .int .u32 s3, .int .u32 s4, .int .u32 s5, .int .u32 s6, .int .u32 s7] 170))) HX3.out hb6); have HY6 := Aside0.mk (blk_below (w := World.drew ((w2.setCell ⟨w.heap.size + 1, lr.length, none⟩ (.int .u8 128)).alloc (.cells #[.int .u32 s0, .int .u32 s1, .int .u32 s2, .int .u32 s3, .int .u32 s4, .int .u32 s5, .int .u32 s6, .int .u32 s7] 170))) HY3.out hb6); have HZ6 := Aside0.mk (blk_below (w := World.drew ((w2.setCell ⟨w.heap.size + 1, lr.length, none⟩ (.int .u8 128)).alloc (.cells #[.int .u32 s0, .int .u32 s1, .int .u32 s2, .int .u32 s3, .int .u32 s4, .int .u32 s5, .int .u32 s6, .int .u32 s7] 170))) HZ3.out hb6); clear ho6 hb6) | (refine step_copy_ints rfl (.tmp 32) (.tmp 36) 22 22 rfl 5 Try.underlying22 (by kernel_rfl) (w.heap.size + 1) 56 8 8 p.length c6 A6 (en.last lr) p 5 8 rfl rfl HY6.out (by rw [HPL.out]; rfl) (Kd.R_reads' HO6.out).2.2 (Nat.le_of_eq hlll.symm) ?_; intro w7 h7 hg7; have HG7 := Aside0.mk hg7; have HY7 := Aside0.mk (show w7.heap[w.heap.size + 1]? = some (.cells (rc ((en.last lr).take 56 ++ p.take 8 ++ (en.last lr).drop (56 + 8))) 5 (0, 0)) from h7); have HZ7 := Aside0.mk (blk_grown HZ6.out hg7 (fun ee => absurd (Option.some.inj ee) HNE.out)); have m0 : w7.cell? ⟨w2.heap.size, 0, none⟩ = some (.int .u32 s0) := (blk_cell HZ7.out 0).trans rfl; have m1 : w7.cell? ⟨w2.heap.size, 1, none⟩ = some (.int .u32 s1) := (blk_cell HZ7.out 1).trans rfl; have m2 : w7.cell? ⟨w2.heap.size, 2, none⟩ = some (.int .u32 s2) := (blk_cell HZ7.out 2).trans rfl; have m3 : w7.cell? ⟨w2.heap.size, 3, none⟩ = some (.int .u32 s3) := (blk_cell HZ7.out 3).trans rfl; have m4 : w7.cell? ⟨w2.heap.size, 4, none⟩ = some (.int .u32 s4) := (blk_cell HZ7.out 4).trans rfl; have m5 : w7.cell? ⟨w2.heap.size, 5, none⟩ = some (.int .u32 s5) := (blk_cell HZ7.out 5).trans rfl; have m6 : w7.cell? ⟨w2.heap.size, 6, none⟩ = some (.int .u32 s6) := (blk_cell HZ7.out 6).trans rfl; have m7 : w7.cell? ⟨w2.heap.size, 7, none⟩ = some (.int .u32 s7) := (blk_cell HZ7.out 7).trans rfl; clear h7 hg7))
  have h56 : (en.last lr).take 56 ++ p.take 8 ++ (en.last lr).drop (56 + 8) = (en.last lr).take 56 ++ p := by rw [List.drop_of_length_le (Nat.le_of_eq hlll), List.append_nil, List.take_of_length_le (Nat.le_of_eq HPL.out)]
  rw [h56] at HY7
  have HL5 := Aside0.mk (show ((en.last lr).take 56 ++ p).length = 64 by rw [List.length_append, List.length_take, hlll, HPL.out]; rfl)
  have HC7 := Aside0.mk (blk_C (k := .u8) HY7.out (by have := HL5.out; omega))
  have HB7 := Aside0.mk ((below_drew HB3.out).trans ((HB6.out.mono HB3.out.size).grown HG7.out (Nat.le_trans HB3.out.size HB6.out.size) (fun kk hk => by cases hk; omega)))
  have HBLK := Aside0.mk (sb.call k [s0, s1, s2, s3, s4, s5, s6, s7] (some ⟨w.heap.size + 1, 0, none⟩) 64 ((en.last lr).take 56 ++ p) s2' w7 (Kd.C_below HLD.out (HB7.out.mono (Nat.le_refl _))) HC7.out (Nat.le_of_eq HL5.out) HBK.out)
  rw [HL5.out] at HBLK
  go_wp2_with (first | (go_at_call 144; refine Calls.mono HBLK.out ?_; rintro ee w8 ⟨rfl, hb8⟩; have HB8 := Aside0.mk hb8; have HZ8 := Aside0.mk (blk_below HZ7.out hb8); have n0 : w8.cell? ⟨w2.heap.size, 0, none⟩ = some (.int .u32 s0) := (blk_cell HZ8.out 0).trans rfl; have nf0 := blk_frozen HZ8.out 0; have n1 : w8.cell? ⟨w2.heap.size, 1, none⟩ = some (.int .u32 s1) := (blk_cell HZ8.out 1).trans rfl; have nf1 := blk_frozen HZ8.out 1; have n2 : w8.cell? ⟨w2.heap.size, 2, none⟩ = some (.int .u32 s2) := (blk_cell HZ8.out 2).trans rfl; have nf2 := blk_frozen HZ8.out 2; have n3 : w8.cell? ⟨w2.heap.size, 3, none⟩ = some (.int .u32 s3) := (blk_cell HZ8.out 3).trans rfl; have nf3 := blk_frozen HZ8.out 3; have n4 : w8.cell? ⟨w2.heap.size, 4, none⟩ = some (.int .u32 s4) := (blk_cell HZ8.out 4).trans rfl; have nf4 := blk_frozen HZ8.out 4; have n5 : w8.cell? ⟨w2.heap.size, 5, none⟩ = some (.int .u32 s5) := (blk_cell HZ8.out 5).trans rfl; have nf5 := blk_frozen HZ8.out 5; have n6 : w8.cell? ⟨w2.heap.size, 6, none⟩ = some (.int .u32 s6) := (blk_cell HZ8.out 6).trans rfl; have nf6 := blk_frozen HZ8.out 6; have n7 : w8.cell? ⟨w2.heap.size, 7, none⟩ = some (.int .u32 s7) := (blk_cell HZ8.out 7).trans rfl; have nf7 := blk_frozen HZ8.out 7; clear hb8; unfold stl st8) | (go_at_call 32; refine Calls.mono (word_Bytes.calls k (some ⟨w2.heap.size, 0, none⟩) 8 [s2'[0]?.getD 0, s2'[1]?.getD 0, s2'[2]?.getD 0, s2'[3]?.getD 0, s2'[4]?.getD 0, s2'[5]?.getD 0, s2'[6]?.getD 0, s2'[7]?.getD 0] r _ ?c1 (Nat.le_refl _) HWB.out) ?_; (case c1 => exact blk_C (k := .u32) (L := [s2'[0]?.getD 0, s2'[1]?.getD 0, s2'[2]?.getD 0, s2'[3]?.getD 0, s2'[4]?.getD 0, s2'[5]?.getD 0, s2'[6]?.getD 0, s2'[7]?.getD 0]) (set8 HZ8.out _ _ _ _ _ _ _ _) (by show 8 ≤ 9223372036854775807; omega)); rintro ee w9 ⟨v9, rfl, ho9, hb9⟩; have HO9 := Aside0.mk ho9; have HB9 := Aside0.mk hb9; have HB10 := Aside0.mk ((set8_below (HB7.out.trans (HB8.out.mono HB7.out.size)) HGE.out (s2'[0]?.getD 0) (s2'[1]?.getD 0) (s2'[2]?.getD 0) (s2'[3]?.getD 0) (s2'[4]?.getD 0) (s2'[5]?.getD 0) (s2'[6]?.getD 0) (s2'[7]?.getD 0)).size); clear ho9 hb9))
  go_ret2
  exact ⟨_, rfl, Kd.R_lower HO9.out HB10.out, (set8_below (HB7.out.trans (HB8.out.mono HB7.out.size)) HGE.out _ _ _ _ _ _ _ _).trans (HB9.out.mono HB10.out)⟩
set_option maxHeartbeats 8000000 in
set_option maxRecDepth 100000 in
theorem en.long (k : Nat) (s0 s1 s2 s3 s4 s5 s6 s7 : Int) (R0 : Option Addr) (cr : Nat) (lr : List Int) (m : Int) (r : List Int) (w : World) (hL0 : Kd.C (Kd.int .u32) w (some ⟨1, 0, none⟩) 64 shaK) (hrr : Kd.C (Kd.int .u8) w R0 lr.length lr) (hcr : lr.length ≤ cr)
    (hl56 : 56 ≤ lr.length) (hlr : lr.length < 64) (t0 t1 t2 t3 t4 t5 t6 t7 : Int) (p s2' : List Int) (hb1 : sb.f k [s0, s1, s2, s3, s4, s5, s6, s7] (en.last lr) = some [t0, t1, t2, t3, t4, t5, t6, t7]) (hp : word_Put.f k (m * 8 % 18446744073709551616) = some p) (hpl : p.length = 8) (hb : sb.f k [t0, t1, t2, t3, t4, t5, t6, t7] (z64.take 56 ++ p) = some s2') (hw : word_Bytes.f k s2' = some r) :
    Calls Try.prog 142 #[.agg (hs10 s0 s1 s2 s3 s4 s5 s6 s7 (.slice R0 lr.length cr) m)] w fun e w' => ∃ v0_ : Value, e = .returned (.tuple #[v0_, .int .i64 0]) ∧ Kd.R (Kd.int .u8) 5 w' w.heap.size (fun _ => True) v0_ r ∧ Below w.heap.size w w' := by
  have HLD := Aside0.mk hL0
  have HRR := Aside0.mk hrr
  have HCR := Aside0.mk hcr
  have HLR := Aside0.mk hlr
  have HL64 := Aside0.mk (show lr.length < 64 by omega)
  have c1 : decide (64 ≤ (lr.length : Int)) = false := decide_eq_false (by omega)
  have c2 : decide (56 ≤ (lr.length : Int)) = true := decide_eq_true (by omega)
  have HBK1 := Aside0.mk hb1
  have hlll : (en.last lr).length = 64 := by unfold en.last; simp; omega
  have HLLL := Aside0.mk hlll
  clear hlll
  have HP := Aside0.mk hp
  have HBK := Aside0.mk hb
  have HW := Aside0.mk hw
  have HPL := Aside0.mk hpl
  obtain ⟨b0, b1, bb, bs⟩ := two w (.cells #[.int .u32 s0, .int .u32 s1, .int .u32 s2, .int .u32 s3, .int .u32 s4, .int .u32 s5, .int .u32 s6, .int .u32 s7, .slice R0 lr.length cr, .int .u64 m] 172) (.cells (rc z64) 5)
  have HB0 := Aside0.mk b0
  have HB1 := Aside0.mk b1
  have HBB := Aside0.mk bb
  have HBS := Aside0.mk bs
  have p1 := eq_true (show (lr.length : Int) < 64 by omega)
  have p2 := eq_true (show (0 : Int) ≤ (lr.length : Int) by omega)
  have hmk := mk64
  clear hL0 hrr hcr hlr hl56 hb1 hp hb hw hpl b0 b1 bb bs
  unfold hs10
  go_enter Try.func142, Try.ntmps142
  go_wp2_with (first | ((with_reducible refine gate_builtin (b := .copy) (xs := #[.tmp 12, .tmp 14]) rfl ?_); (refine list_copy_ints rfl (.tmp 12) (.tmp 14) 22 22 rfl 5 Try.underlying22 (by kernel_rfl) (w.heap.size + 1) 0 64 64 lr.length cr R0 z64 lr 5 lr.length rfl rfl HB1.out (by have := HLR.out; omega) (Kd.C_below HRR.out HBB.out) (by have := HLR.out; show 0 + lr.length ≤ 64; omega) ?_; intro w2 h2 hg2; have HG2 := Aside0.mk hg2; have HL2 := Aside0.mk (show w2.heap[w.heap.size + 1]? = some (.cells (rc (z64.take 0 ++ lr.take lr.length ++ z64.drop (0 + lr.length))) 5 (0, 0)) from h2); have hx2 : w2.cell? ⟨w.heap.size + 1, lr.length, none⟩ = some (.int .u8 0) := (blk_cell HL2.out lr.length).trans (en.at _ HL64.out); have hy2 := blk_frozen HL2.out lr.length; have HM2 := Aside0.mk (blk_grown HB0.out hg2 (by simp)); have k0 : w2.cell? ⟨w.heap.size, 0, none⟩ = some (.int .u32 s0) := (blk_cell HM2.out 0).trans rfl; have k1 : w2.cell? ⟨w.heap.size, 1, none⟩ = some (.int .u32 s1) := (blk_cell HM2.out 1).trans rfl; have k2 : w2.cell? ⟨w.heap.size, 2, none⟩ = some (.int .u32 s2) := (blk_cell HM2.out 2).trans rfl; have k3 : w2.cell? ⟨w.heap.size, 3, none⟩ = some (.int .u32 s3) := (blk_cell HM2.out 3).trans rfl; have k4 : w2.cell? ⟨w.heap.size, 4, none⟩ = some (.int .u32 s4) := (blk_cell HM2.out 4).trans rfl; have k5 : w2.cell? ⟨w.heap.size, 5, none⟩ = some (.int .u32 s5) := (blk_cell HM2.out 5).trans rfl; have k6 : w2.cell? ⟨w.heap.size, 6, none⟩ = some (.int .u32 s6) := (blk_cell HM2.out 6).trans rfl; have k7 : w2.cell? ⟨w.heap.size, 7, none⟩ = some (.int .u32 s7) := (blk_cell HM2.out 7).trans rfl; have k8 : w2.cell? ⟨w.heap.size, 8, none⟩ = some (.slice R0 lr.length cr) := (blk_cell HM2.out 8).trans rfl; have k9 : w2.cell? ⟨w.heap.size, 9, none⟩ = some (.int .u64 m) := (blk_cell HM2.out 9).trans rfl; have HX3 := Aside0.mk (show ((w2.setCell ⟨w.heap.size + 1, lr.length, none⟩ (.int .u8 128)).alloc (.cells #[.int .u32 s0, .int .u32 s1, .int .u32 s2, .int .u32 s3, .int .u32 s4, .int .u32 s5, .int .u32 s6, .int .u32 s7] 170)).heap[w.heap.size]? = some (.cells (hs10 s0 s1 s2 s3 s4 s5 s6 s7 (.slice R0 lr.length cr) m) 172 (0, 0)) from blk_alloc (blk_far HM2.out (show w.heap.size ≠ w.heap.size + 1 by omega) _) _); have HY3 := Aside0.mk (show ((w2.setCell ⟨w.heap.size + 1, lr.length, none⟩ (.int .u8 128)).alloc (.cells #[.int .u32 s0, .int .u32 s1, .int .u32 s2, .int .u32 s3, .int .u32 s4, .int .u32 s5, .int .u32 s6, .int .u32 s7] 170)).heap[w.heap.size + 1]? = some (.cells (rc (en.last lr)) 5 (0, 0)) from blk_alloc (blk_put HL2.out lr.length _ (en.set lr HL64.out)) _); have HZ3 := Aside0.mk (show ((w2.setCell ⟨w.heap.size + 1, lr.length, none⟩ (.int .u8 128)).alloc (.cells #[.int .u32 s0, .int .u32 s1, .int .u32 s2, .int .u32 s3, .int .u32 s4, .int .u32 s5, .int .u32 s6, .int .u32 s7] 170)).heap[w2.heap.size]? = some (.cells (st8 s0 s1 s2 s3 s4 s5 s6 s7) 170 (0, 0)) from by have hn3 := blk_new (w2.setCell ⟨w.heap.size + 1, lr.length, none⟩ (.int .u8 128)) (.cells #[.int .u32 s0, .int .u32 s1, .int .u32 s2, .int .u32 s3, .int .u32 s4, .int .u32 s5, .int .u32 s6, .int .u32 s7] 170); rw [setCell_size] at hn3; exact hn3); have j8 : ((w2.setCell ⟨w.heap.size + 1, lr.length, none⟩ (.int .u8 128)).alloc (.cells #[.int .u32 s0, .int .u32 s1, .int .u32 s2, .int .u32 s3, .int .u32 s4, .int .u32 s5, .int .u32 s6, .int .u32 s7] 170)).cell? ⟨w.heap.size, 8, none⟩ = some (.slice R0 lr.length cr) := (blk_cell HX3.out 8).trans rfl; have j9 : ((w2.setCell ⟨w.heap.size + 1, lr.length, none⟩ (.int .u8 128)).alloc (.cells #[.int .u32 s0, .int .u32 s1, .int .u32 s2, .int .u32 s3, .int .u32 s4, .int .u32 s5, .int .u32 s6, .int .u32 s7] 170)).cell? ⟨w.heap.size, 9, none⟩ = some (.int .u64 m) := (blk_cell HX3.out 9).trans rfl; have HB3 := Aside0.mk (show Below w.heap.size w ((w2.setCell ⟨w.heap.size + 1, lr.length, none⟩ (.int .u8 128)).alloc (.cells #[.int .u32 s0, .int .u32 s1, .int .u32 s2, .int .u32 s3, .int .u32 s4, .int .u32 s5, .int .u32 s6, .int .u32 s7] 170)) from ((HBB.out.grown hg2 (by have := HBS.out; omega) (fun k hk => by cases hk; omega)).setCell (p := ⟨w.heap.size + 1, lr.length, none⟩) (by show w.heap.size ≤ w.heap.size + 1; omega) _).alloc (by rw [setCell_size]; have := blk_lt HM2.out; omega) _); clear h2 hg2)) | (go_at_call 144; have hcl1 := sb.call k [s0, s1, s2, s3, s4, s5, s6, s7] (some ⟨w.heap.size + 1, 0, none⟩) 64 (en.last lr) [t0, t1, t2, t3, t4, t5, t6, t7] ((w2.setCell ⟨w.heap.size + 1, lr.length, none⟩ (.int .u8 128)).alloc (.cells #[.int .u32 s0, .int .u32 s1, .int .u32 s2, .int .u32 s3, .int .u32 s4, .int .u32 s5, .int .u32 s6, .int .u32 s7] 170)) (Kd.C_below HLD.out (HB3.out.mono (Nat.le_refl _))) (blk_C (k := .u8) HY3.out (by have := HLLL.out; omega)) (Nat.le_of_eq HLLL.out) HBK1.out; rw [HLLL.out] at hcl1; refine Calls.mono hcl1 ?_; clear hcl1; rintro ee w4 ⟨rfl, hb4⟩; have HB4 := Aside0.mk hb4; have HZ4 := Aside0.mk (blk_below HZ3.out hb4); have n0 : w4.cell? ⟨w2.heap.size, 0, none⟩ = some (.int .u32 s0) := (blk_cell HZ4.out 0).trans rfl; have nf0 := blk_frozen HZ4.out 0; have n1 : w4.cell? ⟨w2.heap.size, 1, none⟩ = some (.int .u32 s1) := (blk_cell HZ4.out 1).trans rfl; have nf1 := blk_frozen HZ4.out 1; have n2 : w4.cell? ⟨w2.heap.size, 2, none⟩ = some (.int .u32 s2) := (blk_cell HZ4.out 2).trans rfl; have nf2 := blk_frozen HZ4.out 2; have n3 : w4.cell? ⟨w2.heap.size, 3, none⟩ = some (.int .u32 s3) := (blk_cell HZ4.out 3).trans rfl; have nf3 := blk_frozen HZ4.out 3; have n4 : w4.cell? ⟨w2.heap.size, 4, none⟩ = some (.int .u32 s4) := (blk_cell HZ4.out 4).trans rfl; have nf4 := blk_frozen HZ4.out 4; have n5 : w4.cell? ⟨w2.heap.size, 5, none⟩ = some (.int .u32 s5) := (blk_cell HZ4.out 5).trans rfl; have nf5 := blk_frozen HZ4.out 5; have n6 : w4.cell? ⟨w2.heap.size, 6, none⟩ = some (.int .u32 s6) := (blk_cell HZ4.out 6).trans rfl; have nf6 := blk_frozen HZ4.out 6; have n7 : w4.cell? ⟨w2.heap.size, 7, none⟩ = some (.int .u32 s7) := (blk_cell HZ4.out 7).trans rfl; have nf7 := blk_frozen HZ4.out 7; have HS8 := Aside0.mk (show ((((((((w4.setCell ⟨w2.heap.size, 0, none⟩ (.int .u32 t0)).setCell ⟨w2.heap.size, 1, none⟩ (.int .u32 t1)).setCell ⟨w2.heap.size, 2, none⟩ (.int .u32 t2)).setCell ⟨w2.heap.size, 3, none⟩ (.int .u32 t3)).setCell ⟨w2.heap.size, 4, none⟩ (.int .u32 t4)).setCell ⟨w2.heap.size, 5, none⟩ (.int .u32 t5)).setCell ⟨w2.heap.size, 6, none⟩ (.int .u32 t6)).setCell ⟨w2.heap.size, 7, none⟩ (.int .u32 t7)).heap.size = w4.heap.size by simp only [setCell_size]); have HX5 := Aside0.mk (show (((((((((w4.setCell ⟨w2.heap.size, 0, none⟩ (.int .u32 t0)).setCell ⟨w2.heap.size, 1, none⟩ (.int .u32 t1)).setCell ⟨w2.heap.size, 2, none⟩ (.int .u32 t2)).setCell ⟨w2.heap.size, 3, none⟩ (.int .u32 t3)).setCell ⟨w2.heap.size, 4, none⟩ (.int .u32 t4)).setCell ⟨w2.heap.size, 5, none⟩ (.int .u32 t5)).setCell ⟨w2.heap.size, 6, none⟩ (.int .u32 t6)).setCell ⟨w2.heap.size, 7, none⟩ (.int .u32 t7)).alloc (.cells (rc z64) 5)).heap[w.heap.size]? = some (.cells (hs10 s0 s1 s2 s3 s4 s5 s6 s7 (.slice R0 lr.length cr) m) 172 (0, 0)) from blk_alloc (set8_other (by have := blk_lt HM2.out; omega) (blk_below HX3.out hb4) _ _ _ _ _ _ _ _) _); have HY5 := Aside0.mk (show (((((((((w4.setCell ⟨w2.heap.size, 0, none⟩ (.int .u32 t0)).setCell ⟨w2.heap.size, 1, none⟩ (.int .u32 t1)).setCell ⟨w2.heap.size, 2, none⟩ (.int .u32 t2)).setCell ⟨w2.heap.size, 3, none⟩ (.int .u32 t3)).setCell ⟨w2.heap.size, 4, none⟩ (.int .u32 t4)).setCell ⟨w2.heap.size, 5, none⟩ (.int .u32 t5)).setCell ⟨w2.heap.size, 6, none⟩ (.int .u32 t6)).setCell ⟨w2.heap.size, 7, none⟩ (.int .u32 t7)).alloc (.cells (rc z64) 5)).heap[w4.heap.size]? = some (.cells (rc z64) 5 (0, 0)) from by have hn5 := blk_new ((((((((w4.setCell ⟨w2.heap.size, 0, none⟩ (.int .u32 t0)).setCell ⟨w2.heap.size, 1, none⟩ (.int .u32 t1)).setCell ⟨w2.heap.size, 2, none⟩ (.int .u32 t2)).setCell ⟨w2.heap.size, 3, none⟩ (.int .u32 t3)).setCell ⟨w2.heap.size, 4, none⟩ (.int .u32 t4)).setCell ⟨w2.heap.size, 5, none⟩ (.int .u32 t5)).setCell ⟨w2.heap.size, 6, none⟩ (.int .u32 t6)).setCell ⟨w2.heap.size, 7, none⟩ (.int .u32 t7)) (.cells (rc z64) 5); rw [HS8.out] at hn5; exact hn5); have HZ5 := Aside0.mk (show (((((((((w4.setCell ⟨w2.heap.size, 0, none⟩ (.int .u32 t0)).setCell ⟨w2.heap.size, 1, none⟩ (.int .u32 t1)).setCell ⟨w2.heap.size, 2, none⟩ (.int .u32 t2)).setCell ⟨w2.heap.size, 3, none⟩ (.int .u32 t3)).setCell ⟨w2.heap.size, 4, none⟩ (.int .u32 t4)).setCell ⟨w2.heap.size, 5, none⟩ (.int .u32 t5)).setCell ⟨w2.heap.size, 6, none⟩ (.int .u32 t6)).setCell ⟨w2.heap.size, 7, none⟩ (.int .u32 t7)).alloc (.cells (rc z64) 5)).heap[w2.heap.size]? = some (.cells (st8 t0 t1 t2 t3 t4 t5 t6 t7) 170 (0, 0)) from blk_alloc (set8 HZ4.out _ _ _ _ _ _ _ _) _); have HB5 := Aside0.mk (show Below w.heap.size w (((((((((w4.setCell ⟨w2.heap.size, 0, none⟩ (.int .u32 t0)).setCell ⟨w2.heap.size, 1, none⟩ (.int .u32 t1)).setCell ⟨w2.heap.size, 2, none⟩ (.int .u32 t2)).setCell ⟨w2.heap.size, 3, none⟩ (.int .u32 t3)).setCell ⟨w2.heap.size, 4, none⟩ (.int .u32 t4)).setCell ⟨w2.heap.size, 5, none⟩ (.int .u32 t5)).setCell ⟨w2.heap.size, 6, none⟩ (.int .u32 t6)).setCell ⟨w2.heap.size, 7, none⟩ (.int .u32 t7)).alloc (.cells (rc z64) 5)) from (set8_below (HB3.out.trans (hb4.mono HB3.out.size)) (by have := blk_lt HM2.out; omega) _ _ _ _ _ _ _ _).alloc (by rw [HS8.out]; have := HB3.out.size; have := hb4.size; omega) _); have o9 : (((((((((w4.setCell ⟨w2.heap.size, 0, none⟩ (.int .u32 t0)).setCell ⟨w2.heap.size, 1, none⟩ (.int .u32 t1)).setCell ⟨w2.heap.size, 2, none⟩ (.int .u32 t2)).setCell ⟨w2.heap.size, 3, none⟩ (.int .u32 t3)).setCell ⟨w2.heap.size, 4, none⟩ (.int .u32 t4)).setCell ⟨w2.heap.size, 5, none⟩ (.int .u32 t5)).setCell ⟨w2.heap.size, 6, none⟩ (.int .u32 t6)).setCell ⟨w2.heap.size, 7, none⟩ (.int .u32 t7)).alloc (.cells (rc z64) 5)).cell? ⟨w.heap.size, 9, none⟩ = some (.int .u64 m) := (blk_cell HX5.out 9).trans rfl; clear hb4; unfold stl st8; simp only [List.getElem?_cons_zero, List.getElem?_cons_succ, Option.getD_some]))
  have HPW := Aside0.mk (show word_Put.f k (IntKind.u64.wrap (m * 8)) = some p from by have h0 := HP.out; rw [show IntKind.u64.wrap (m * 8) = m * 8 % 18446744073709551616 by simp [IntKind.wrap, IntKind.bits, IntKind.signed]]; exact h0)
  have HGE := Aside0.mk (show w.heap.size ≤ w2.heap.size by have := blk_lt HL2.out; omega)
  have HWB := Aside0.mk (sb.eight HBK.out ▸ HW.out)
  have HNE := Aside0.mk (show w2.heap.size ≠ w4.heap.size by have := blk_lt HZ4.out; omega)
  have HG4 := Aside0.mk (show w.heap.size ≤ w4.heap.size from Nat.le_trans HB3.out.size HB4.out.size)
  have hz64 : z64.length = 64 := rfl
  generalize (((((((((w4.setCell ⟨w2.heap.size, 0, none⟩ (.int .u32 t0)).setCell ⟨w2.heap.size, 1, none⟩ (.int .u32 t1)).setCell ⟨w2.heap.size, 2, none⟩ (.int .u32 t2)).setCell ⟨w2.heap.size, 3, none⟩ (.int .u32 t3)).setCell ⟨w2.heap.size, 4, none⟩ (.int .u32 t4)).setCell ⟨w2.heap.size, 5, none⟩ (.int .u32 t5)).setCell ⟨w2.heap.size, 6, none⟩ (.int .u32 t6)).setCell ⟨w2.heap.size, 7, none⟩ (.int .u32 t7)).alloc (.cells (rc z64) 5)) = W5 at HX5 HY5 HZ5 HB5 o9 ⊢
  clear n0 n1 n2 n3 n4 n5 n6 n7 nf0 nf1 nf2 nf3 nf4 nf5 nf6 nf7 k0 k1 k2 k3 k4 k5 k6 k7 k8 k9 hx2 hy2 j8 j9 HX3 HY3 HZ3 HB3 HZ4 HB4 HS8 HM2 HL2 HG2 HB0 HB1 HBB HBS c1 c2
  go_region_law (first | (refine goes_ Try.func38 (by kernel_rfl) rfl #[.int .u64 (IntKind.u64.wrap (m * 8))] (by first | rfl | (simp [Region.wanted, yielded, *]; done)) rfl rfl (by (try simp only [List.map_toArray, List.map_cons, List.map_nil]); first | done | rfl) ?_; refine Calls.mono (word_Put.calls k _ p _ HPW.out) ?_; rintro ee w6 ⟨v6, rfl, ho6, hb6⟩; obtain ⟨A6, c6, rfl⟩ := Kd.R_slice ho6; refine ⟨_, rfl, ?_⟩; have HO6 := Aside0.mk ho6; have HB6 := Aside0.mk hb6; have HX6 := Aside0.mk (blk_below (w := World.drew W5) HX5.out hb6); have HY6 := Aside0.mk (blk_below (w := World.drew W5) HY5.out hb6); have HZ6 := Aside0.mk (blk_below (w := World.drew W5) HZ5.out hb6); clear ho6 hb6) | (refine step_copy_ints rfl (.tmp 32) (.tmp 36) 22 22 rfl 5 Try.underlying22 (by kernel_rfl) (w4.heap.size) 56 8 8 p.length c6 A6 (z64) p 5 8 rfl rfl HY6.out (by rw [HPL.out]; rfl) (Kd.R_reads' HO6.out).2.2 (Nat.le_of_eq hz64.symm) ?_; intro w7 h7 hg7; have HG7 := Aside0.mk hg7; have HY7 := Aside0.mk (show w7.heap[w4.heap.size]? = some (.cells (rc ((z64).take 56 ++ p.take 8 ++ (z64).drop (56 + 8))) 5 (0, 0)) from h7); have HZ7 := Aside0.mk (blk_grown HZ6.out hg7 (fun ee => absurd (Option.some.inj ee) HNE.out)); have m0 : w7.cell? ⟨w2.heap.size, 0, none⟩ = some (.int .u32 t0) := (blk_cell HZ7.out 0).trans rfl; have m1 : w7.cell? ⟨w2.heap.size, 1, none⟩ = some (.int .u32 t1) := (blk_cell HZ7.out 1).trans rfl; have m2 : w7.cell? ⟨w2.heap.size, 2, none⟩ = some (.int .u32 t2) := (blk_cell HZ7.out 2).trans rfl; have m3 : w7.cell? ⟨w2.heap.size, 3, none⟩ = some (.int .u32 t3) := (blk_cell HZ7.out 3).trans rfl; have m4 : w7.cell? ⟨w2.heap.size, 4, none⟩ = some (.int .u32 t4) := (blk_cell HZ7.out 4).trans rfl; have m5 : w7.cell? ⟨w2.heap.size, 5, none⟩ = some (.int .u32 t5) := (blk_cell HZ7.out 5).trans rfl; have m6 : w7.cell? ⟨w2.heap.size, 6, none⟩ = some (.int .u32 t6) := (blk_cell HZ7.out 6).trans rfl; have m7 : w7.cell? ⟨w2.heap.size, 7, none⟩ = some (.int .u32 t7) := (blk_cell HZ7.out 7).trans rfl; clear h7 hg7))
  have h56 : (z64).take 56 ++ p.take 8 ++ (z64).drop (56 + 8) = (z64).take 56 ++ p := by rw [List.drop_of_length_le (Nat.le_of_eq hz64), List.append_nil, List.take_of_length_le (Nat.le_of_eq HPL.out)]
  rw [h56] at HY7
  have HL5 := Aside0.mk (show ((z64).take 56 ++ p).length = 64 by rw [List.length_append, List.length_take, hz64, HPL.out]; rfl)
  have HC7 := Aside0.mk (blk_C (k := .u8) HY7.out (by have := HL5.out; omega))
  have HB7 := Aside0.mk ((below_drew HB5.out).trans ((HB6.out.mono HB5.out.size).grown HG7.out (Nat.le_trans HB5.out.size HB6.out.size) (fun kk hk => by cases hk; exact HG4.out)))
  have HBLK := Aside0.mk (sb.call k [t0, t1, t2, t3, t4, t5, t6, t7] (some ⟨w4.heap.size, 0, none⟩) 64 ((z64).take 56 ++ p) s2' w7 (Kd.C_below HLD.out (HB7.out.mono (Nat.le_refl _))) HC7.out (Nat.le_of_eq HL5.out) HBK.out)
  rw [HL5.out] at HBLK
  go_wp2_with (first | (go_at_call 144; refine Calls.mono HBLK.out ?_; rintro ee w8 ⟨rfl, hb8⟩; have HB8 := Aside0.mk hb8; have HZ8 := Aside0.mk (blk_below HZ7.out hb8); have n0 : w8.cell? ⟨w2.heap.size, 0, none⟩ = some (.int .u32 t0) := (blk_cell HZ8.out 0).trans rfl; have nf0 := blk_frozen HZ8.out 0; have n1 : w8.cell? ⟨w2.heap.size, 1, none⟩ = some (.int .u32 t1) := (blk_cell HZ8.out 1).trans rfl; have nf1 := blk_frozen HZ8.out 1; have n2 : w8.cell? ⟨w2.heap.size, 2, none⟩ = some (.int .u32 t2) := (blk_cell HZ8.out 2).trans rfl; have nf2 := blk_frozen HZ8.out 2; have n3 : w8.cell? ⟨w2.heap.size, 3, none⟩ = some (.int .u32 t3) := (blk_cell HZ8.out 3).trans rfl; have nf3 := blk_frozen HZ8.out 3; have n4 : w8.cell? ⟨w2.heap.size, 4, none⟩ = some (.int .u32 t4) := (blk_cell HZ8.out 4).trans rfl; have nf4 := blk_frozen HZ8.out 4; have n5 : w8.cell? ⟨w2.heap.size, 5, none⟩ = some (.int .u32 t5) := (blk_cell HZ8.out 5).trans rfl; have nf5 := blk_frozen HZ8.out 5; have n6 : w8.cell? ⟨w2.heap.size, 6, none⟩ = some (.int .u32 t6) := (blk_cell HZ8.out 6).trans rfl; have nf6 := blk_frozen HZ8.out 6; have n7 : w8.cell? ⟨w2.heap.size, 7, none⟩ = some (.int .u32 t7) := (blk_cell HZ8.out 7).trans rfl; have nf7 := blk_frozen HZ8.out 7; clear hb8; unfold stl st8) | (go_at_call 32; refine Calls.mono (word_Bytes.calls k (some ⟨w2.heap.size, 0, none⟩) 8 [s2'[0]?.getD 0, s2'[1]?.getD 0, s2'[2]?.getD 0, s2'[3]?.getD 0, s2'[4]?.getD 0, s2'[5]?.getD 0, s2'[6]?.getD 0, s2'[7]?.getD 0] r _ ?c1 (Nat.le_refl _) HWB.out) ?_; (case c1 => exact blk_C (k := .u32) (L := [s2'[0]?.getD 0, s2'[1]?.getD 0, s2'[2]?.getD 0, s2'[3]?.getD 0, s2'[4]?.getD 0, s2'[5]?.getD 0, s2'[6]?.getD 0, s2'[7]?.getD 0]) (set8 HZ8.out _ _ _ _ _ _ _ _) (by show 8 ≤ 9223372036854775807; omega)); rintro ee w9 ⟨v9, rfl, ho9, hb9⟩; have HO9 := Aside0.mk ho9; have HB9 := Aside0.mk hb9; have HB10 := Aside0.mk ((set8_below (HB7.out.trans (HB8.out.mono HB7.out.size)) HGE.out (s2'[0]?.getD 0) (s2'[1]?.getD 0) (s2'[2]?.getD 0) (s2'[3]?.getD 0) (s2'[4]?.getD 0) (s2'[5]?.getD 0) (s2'[6]?.getD 0) (s2'[7]?.getD 0)).size); clear ho9 hb9))
  go_ret2
  exact ⟨_, rfl, Kd.R_lower HO9.out HB10.out, (set8_below (HB7.out.trans (HB8.out.mono HB7.out.size)) HGE.out _ _ _ _ _ _ _ _).trans (HB9.out.mono HB10.out)⟩
def en.f (k : Nat) (s lr : List Int) (m : Int) : Option (List Int) := if lr.length < 64 then (word_Put.f k (m * 8 % 18446744073709551616)).bind fun p => if p.length = 8 then (if lr.length < 56 then (sb.f k (n8 s) ((en.last lr).take 56 ++ p)).bind (word_Bytes.f k) else (sb.f k (n8 s) (en.last lr)).bind fun s1 => (sb.f k s1 (z64.take 56 ++ p)).bind (word_Bytes.f k)) else none else none
theorem en.call (k : Nat) (s : List Int) (R0 : Option Addr) (cr : Nat) (lr : List Int) (m : Int) (r : List Int) (w : World) (hL0 : Kd.C (Kd.int .u32) w (some ⟨1, 0, none⟩) 64 shaK) (hrr : Kd.C (Kd.int .u8) w R0 lr.length lr) (hcr : lr.length ≤ cr) (h : en.f k s lr m = some r) :
    Calls Try.prog 142 #[.agg (hsl s (.slice R0 lr.length cr) m)] w fun e w' => ∃ v0_ : Value, e = .returned (.tuple #[v0_, .int .i64 0]) ∧ Kd.R (Kd.int .u8) 5 w' w.heap.size (fun _ => True) v0_ r ∧ Below w.heap.size w w' := by
  unfold en.f at h
  by_cases h1 : lr.length < 64
  · rw [if_pos h1] at h
    obtain ⟨p, hp, h⟩ := Option.bind_eq_some_iff.1 h
    by_cases h2 : p.length = 8
    · rw [if_pos h2] at h
      by_cases h3 : lr.length < 56
      · rw [if_pos h3] at h
        obtain ⟨s2, hb, hw⟩ := Option.bind_eq_some_iff.1 h
        exact en.short k _ _ _ _ _ _ _ _ R0 cr lr m r w hL0 hrr hcr h3 p s2 hp h2 hb hw
      · rw [if_neg h3] at h
        obtain ⟨s1, hb1, h⟩ := Option.bind_eq_some_iff.1 h
        obtain ⟨s2, hb, hw⟩ := Option.bind_eq_some_iff.1 h
        have e8 := sb.eight hb1
        rw [e8] at hb1 hb
        exact en.long k _ _ _ _ _ _ _ _ R0 cr lr m r w hL0 hrr hcr (by omega) h1 _ _ _ _ _ _ _ _ p s2 hb1 hp h2 hb hw
    · rw [if_neg h2] at h; cases h
  · rw [if_neg h1] at h; cases h
theorem shaF_n8 : n8 shaF = shaF := by
  have h8 := shaF_len
  generalize shaF = l at h8 ⊢
  match l, h8 with
  | [a, b, c, d, e, f, g, h], _ => rfl
def sm.f (k : Nat) (l0 : List Int) : Option (List Int) := (mo.f k shaF [] l0).bind fun q => en.f k q.1 q.2 ((l0.length : Int) % 18446744073709551616)
set_option maxHeartbeats 8000000 in
set_option maxRecDepth 100000 in
theorem sm.calls (k : Nat) (A0 : Option Addr) (c0 : Nat) (l0 : List Int) (r : List Int) (w : World) (hL0 : Kd.C (Kd.int .u32) w (some ⟨1, 0, none⟩) 64 shaK) (hL1 : Kd.C (Kd.int .u32) w (some ⟨0, 0, none⟩) 8 shaF) (hr0 : Kd.C (Kd.int .u8) w A0 l0.length l0) (hc0 : l0.length ≤ c0) (h : sm.f k l0 = some r) :
    Calls Try.prog 138 #[.slice A0 l0.length c0] w fun e w' => ∃ v0_ : Value, e = .returned (v0_) ∧ Kd.R (Kd.int .u8) 5 w' w.heap.size (fun _ => True) v0_ r ∧ Below w.heap.size w w' := by
  obtain ⟨⟨q1, q2⟩, hq, he⟩ := Option.bind_eq_some_iff.1 h
  have HL0 := Aside0.mk hL0
  have HL1 := Aside0.mk hL1
  have HR0 := Aside0.mk hr0
  have HC0 := Aside0.mk hc0
  have HQ := Aside0.mk hq
  have HE := Aside0.mk he
  have hg : 0 < w.heap.size := World.block_lt_of_cell? w _ (laid_cell (K := shaF) hL1 0 (by decide))
  have HG := Aside0.mk hg
  clear h hL0 hL1 hr0 hc0 hq he hg
  go_enter Try.func138, Try.ntmps138
  go_wp2_with (first
    | (go_at_call 141; refine Calls.mono (st.call w HL1.out) ?_; rintro ee w1 ⟨rfl, hb1⟩; have HB1 := Aside0.mk hb1; clear hb1)
    | (go_at_call 140; refine Calls.mono (mo.call k shaF none 0 [] 0 A0 c0 l0 (q1, q2) w1 (Kd.C_below HL0.out HB1.out) (Kd.C_nil _ _) (Nat.le_refl _) (Kd.C_below HR0.out HB1.out) HC0.out (by rw [shaF_n8]; exact HQ.out)) ?_; rintro ee w2 ⟨v2, rfl, ho2, hb2⟩; obtain ⟨A2, c2, rfl⟩ := Kd.R_slice ho2; have HO2 := Aside0.mk ho2; have HB2 := Aside0.mk (HB1.out.trans (hb2.mono HB1.out.size)); clear ho2 hb2; unfold hsl hs10)
    | (go_at_call 142; refine Calls.mono (en.call k q1 A2 c2 q2 ((l0.length : Int) % 18446744073709551616) r _ (Kd.C_alloc (Kd.C_below HL0.out HB2.out) _) (Kd.C_alloc (Kd.R_reads' HO2.out).2.2 _) (Kd.R_reads' HO2.out).2.1 HE.out) ?_; rintro ee w3 ⟨v3, rfl, ho3, hb3⟩; have HO3 := Aside0.mk ho3; have HB3 := Aside0.mk hb3; clear ho3 hb3))
  have HBA := HB2.out.alloc (HB2.out.size) (.cells #[.int .u32 (q1[0]?.getD 0), .int .u32 (q1[1]?.getD 0), .int .u32 (q1[2]?.getD 0), .int .u32 (q1[3]?.getD 0), .int .u32 (q1[4]?.getD 0), .int .u32 (q1[5]?.getD 0), .int .u32 (q1[6]?.getD 0), .int .u32 (q1[7]?.getD 0), .slice A2 q2.length c2, .int .u64 ((l0.length : Int) % 18446744073709551616)] 172)
  go_ret
  exact ⟨_, rfl, Kd.R_lower HO3.out HBA.size, HBA.trans (HB3.out.mono HBA.size)⟩
theorem sb.mono (s l : List Int) (k : Nat) : LeO (sb.f k s l) (sb.f (k + 1) s l) := by
  unfold sb.f
  exact LeO.ite (LeO.bind (sha_schedule.mono l k) (fun _ => LeO.refl _)) (LeO.refl _)
theorem mo.mono_l (k : Nat) : ∀ n s al, LeO (mo.l0 k n s al) (mo.l0 (k + 1) n s al)
  | 0, _, _ => LeO.refl _
  | n + 1, s, al => by
    simp only [mo.l0]
    exact LeO.ite (LeO.bind (sb.mono s _ k) (fun _ => mo.mono_l k n _ _)) (LeO.refl _)
theorem mo.mono (s lr l0 : List Int) (k : Nat) : LeO (mo.f k s lr l0) (mo.f (k + 1) s lr l0) := by
  unfold mo.f
  exact LeO.ite (mo.mono_l k _ _ _) (LeO.refl _)
theorem en.mono (s lr : List Int) (m : Int) (k : Nat) : LeO (en.f k s lr m) (en.f (k + 1) s lr m) := by
  unfold en.f
  exact LeO.ite (LeO.bind (word_Put.mono _ k) (fun _ => LeO.ite (LeO.ite (LeO.bind (sb.mono _ _ k) (fun x => word_Bytes.mono x k)) (LeO.bind (sb.mono _ _ k) (fun _ => LeO.bind (sb.mono _ _ k) (fun x => word_Bytes.mono x k)))) (LeO.refl _))) (LeO.refl _)
theorem sm.mono (l0 : List Int) (k : Nat) : LeO (sm.f k l0) (sm.f (k + 1) l0) := by
  unfold sm.f
  exact LeO.bind (mo.mono _ _ _ k) (fun _ => en.mono _ _ _ k)
def sha_Block.f (k : Nat) (a0_0 : Int) (a0_1 : Int) (a0_2 : Int) (a0_3 : Int) (a0_4 : Int) (a0_5 : Int) (a0_6 : Int) (a0_7 : Int) (l1 : List Int) : Option (Int × Int × Int × Int × Int × Int × Int × Int × Int) := if l1.length = 64 then (sb.f k [a0_0, a0_1, a0_2, a0_3, a0_4, a0_5, a0_6, a0_7] l1).map fun r => (r[0]?.getD 0, r[1]?.getD 0, r[2]?.getD 0, r[3]?.getD 0, r[4]?.getD 0, r[5]?.getD 0, r[6]?.getD 0, r[7]?.getD 0, 0) else some (0, 0, 0, 0, 0, 0, 0, 0, 1)
theorem sha_Block.mono : ∀ a0_0 a0_1 a0_2 a0_3 a0_4 a0_5 a0_6 a0_7 l1 k, LeO (sha_Block.f k a0_0 a0_1 a0_2 a0_3 a0_4 a0_5 a0_6 a0_7 l1) (sha_Block.f (k + 1) a0_0 a0_1 a0_2 a0_3 a0_4 a0_5 a0_6 a0_7 l1) := by
  intro a0_0 a0_1 a0_2 a0_3 a0_4 a0_5 a0_6 a0_7 l1 k
  unfold sha_Block.f
  exact LeO.ite (LeO.map _ (sb.mono _ _ k)) (LeO.refl _)
theorem sha_Block.calls (k : Nat) (a0_0 : Int) (a0_1 : Int) (a0_2 : Int) (a0_3 : Int) (a0_4 : Int) (a0_5 : Int) (a0_6 : Int) (a0_7 : Int) (A1 : Option Addr) (c1 : Nat) (l1 : List Int) (r1 : Int) (r2 : Int) (r3 : Int) (r4 : Int) (r5 : Int) (r6 : Int) (r7 : Int) (r8 : Int) (r9 : Int) (w : World) (hr1 : Kd.C (Kd.int .u8) w A1 l1.length l1) (hc1 : l1.length ≤ c1) (hL0_ : Kd.C (Kd.int .u32) w (some ⟨1, 0, none⟩) 64 shaK) (hL1_ : Kd.C (Kd.int .u32) w (some ⟨0, 0, none⟩) 8 shaF) (h : sha_Block.f k a0_0 a0_1 a0_2 a0_3 a0_4 a0_5 a0_6 a0_7 l1 = some (r1, r2, r3, r4, r5, r6, r7, r8, r9)) :
    Calls Try.prog 144 #[.agg #[.int .u32 a0_0, .int .u32 a0_1, .int .u32 a0_2, .int .u32 a0_3, .int .u32 a0_4, .int .u32 a0_5, .int .u32 a0_6, .int .u32 a0_7], .slice A1 l1.length c1] w fun e w' => e = .returned (.tuple #[.agg #[.int .u32 r1, .int .u32 r2, .int .u32 r3, .int .u32 r4, .int .u32 r5, .int .u32 r6, .int .u32 r7, .int .u32 r8], .int .i64 r9]) ∧ Below w.heap.size w w' := by
  unfold sha_Block.f at h
  by_cases h64 : l1.length = 64
  · rw [if_pos h64] at h
    obtain ⟨r, hr, h⟩ := Option.map_eq_some_iff.1 h
    simp only [Prod.mk.injEq] at h
    obtain ⟨rfl, rfl, rfl, rfl, rfl, rfl, rfl, rfl, rfl⟩ := h
    exact sb.call k [a0_0, a0_1, a0_2, a0_3, a0_4, a0_5, a0_6, a0_7] A1 c1 l1 r w hL0_ hr1 hc1 hr
  · rw [if_neg h64] at h
    simp only [Option.some.injEq, Prod.mk.injEq] at h
    obtain ⟨rfl, rfl, rfl, rfl, rfl, rfl, rfl, rfl, rfl⟩ := h
    exact sb.other [a0_0, a0_1, a0_2, a0_3, a0_4, a0_5, a0_6, a0_7] A1 c1 l1 w hr1 hc1 h64
theorem mo.other (s0 s1 s2 s3 s4 s5 s6 s7 : Int) (R0 : Option Addr) (cr n : Nat) (m : Int) (A0 : Option Addr) (c0 n0 : Nat) (w : World) (hlr : ¬ n < 64) :
    Calls Try.prog 140 #[.agg (hs10 s0 s1 s2 s3 s4 s5 s6 s7 (.slice R0 n cr) m), .slice A0 n0 c0] w fun e w' => e = .returned (.tuple #[.agg (hs10 s0 s1 s2 s3 s4 s5 s6 s7 (.slice R0 n cr) m), .int .i64 1]) ∧ Below w.heap.size w w' := by
  have c1 : decide (64 ≤ (n : Int)) = true := decide_eq_true (by omega)
  unfold hs10
  go_enter Try.func140, Try.ntmps140
  go_wp2
  refine bodyPost_ret (results_ct rfl _ _ (w.heap.size + 1) 172 _ (0, 0) _ rfl (by have h_ := blk_new (w.alloc (.cells #[.int .u32 s0, .int .u32 s1, .int .u32 s2, .int .u32 s3, .int .u32 s4, .int .u32 s5, .int .u32 s6, .int .u32 s7, .slice R0 n cr, .int .u64 m] 172)) (.cells #[.int .u32 s0, .int .u32 s1, .int .u32 s2, .int .u32 s3, .int .u32 s4, .int .u32 s5, .int .u32 s6, .int .u32 s7, .slice R0 n cr, .int .u64 m] 172); rw [alloc_size'] at h_; exact h_) Try.underlying172 rfl (by kernel_rfl)) rfl ?_
  exact ⟨rfl, below_alloc (below_alloc (Below.refl w.heap.size w) _) _⟩
theorem en.other (s0 s1 s2 s3 s4 s5 s6 s7 : Int) (R0 : Option Addr) (cr n : Nat) (m : Int) (w : World) (hlr : ¬ n < 64) :
    Calls Try.prog 142 #[.agg (hs10 s0 s1 s2 s3 s4 s5 s6 s7 (.slice R0 n cr) m)] w fun e w' => e = .returned (.tuple #[.slice none 0 0, .int .i64 1]) ∧ Below w.heap.size w w' := by
  have c1 : decide (64 ≤ (n : Int)) = true := decide_eq_true (by omega)
  unfold hs10
  go_enter Try.func142, Try.ntmps142
  go_wp2
  go_ret2
  exact ⟨rfl, below_alloc (Below.refl w.heap.size w) _⟩

/-! ### sha_Sum: function 138 -/
def sha_Sum.f (k : Nat) (l0 : List Int) : Option (List Int) := sm.f k l0
theorem sha_Sum.mono : ∀ a0 k, LeO (sha_Sum.f k a0) (sha_Sum.f (k + 1) a0) := fun a0 k => sm.mono a0 k
theorem sha_Sum.calls (k : Nat) (A0 : Option Addr) (c0 : Nat) (l0 : List Int) (r : List Int) (w : World) (hr0 : Kd.C (Kd.int .u8) w A0 l0.length l0) (hc0 : l0.length ≤ c0) (hL0_ : Kd.C (Kd.int .u32) w (some ⟨1, 0, none⟩) 64 shaK) (hL1_ : Kd.C (Kd.int .u32) w (some ⟨0, 0, none⟩) 8 shaF) (h : sha_Sum.f k l0 = some r) :
    Calls Try.prog 138 #[.slice A0 l0.length c0] w fun e w' => ∃ v0_ : Value, e = .returned (v0_) ∧ Kd.R (Kd.int .u8) 5 w' w.heap.size (fun _ => True) v0_ r ∧ Below w.heap.size w w' := sm.calls k A0 c0 l0 r w hL0_ hL1_ hr0 hc0 h

/-! ### hmac_Block: function 143 -/
def hmac_Block.pad (l : List Int) : List Int := l.take 64 ++ (List.replicate 64 (0 : Int)).drop (min l.length 64)
def hmac_Block.f (k : Nat) (l0 : List Int) : Option (List Int) := if 64 < l0.length then (sha_Sum.f k l0).bind fun h => some (hmac_Block.pad h) else some (hmac_Block.pad l0)
theorem hmac_Block.mono : ∀ a0 k, LeO (hmac_Block.f k a0) (hmac_Block.f (k + 1) a0) := by
  intro a0 k
  unfold hmac_Block.f
  exact LeO.ite (LeO.bind (sha_Sum.mono a0 k) (fun _ => LeO.refl _)) (LeO.refl _)
theorem hmac_Block.padded (l : List Int) (m n : Nat) (hm : m = l.length) (hn : n = 64) : l.take (min m (List.replicate n (0 : Int)).length) ++ (List.replicate n (0 : Int)).drop (min m (List.replicate n (0 : Int)).length) = hmac_Block.pad l := by
  subst hm hn
  unfold hmac_Block.pad
  rw [List.length_replicate]
  congr 1
  rcases Nat.le_total l.length 64 with h | h
  · rw [Nat.min_eq_left h, List.take_of_length_le (Nat.le_refl _), List.take_of_length_le h]
  · rw [Nat.min_eq_right h]
set_option maxHeartbeats 8000000 in
set_option maxRecDepth 100000 in
theorem hmac_Block.calls (k : Nat) (A0 : Option Addr) (c0 : Nat) (l0 : List Int) (r : List Int) (w : World) (hr0 : Kd.C (Kd.int .u8) w A0 l0.length l0) (hc0 : l0.length ≤ c0) (hL0_ : Kd.C (Kd.int .u32) w (some ⟨1, 0, none⟩) 64 shaK) (hL1_ : Kd.C (Kd.int .u32) w (some ⟨0, 0, none⟩) 8 shaF) (h : hmac_Block.f k l0 = some r) :
    Calls Try.prog 143 #[.slice A0 l0.length c0] w fun e w' => ∃ v0_ : Value, e = .returned (v0_) ∧ Kd.R (Kd.int .u8) 5 w' w.heap.size (fun _ => True) v0_ r ∧ Below w.heap.size w w' := by
  have HL0 := Aside0.mk hL0_
  have HL1 := Aside0.mk hL1_
  have HR0 := Aside0.mk hr0
  have HC0 := Aside0.mk hc0
  clear hL0_ hL1_ hr0 hc0
  unfold hmac_Block.f at h
  by_cases h64 : 64 < l0.length
  · rw [if_pos h64] at h
    obtain ⟨q, hq, h⟩ := Option.bind_eq_some_iff.1 h
    obtain rfl := Option.some.inj h
    have HQ := Aside0.mk hq
    have c1 : decide ((64 : Int) < (l0.length : Int)) = true := decide_eq_true (by omega)
    have c2 : decide (64 < l0.length) = true := decide_eq_true h64
    clear h hq
    go_enter Try.func143, Try.ntmps143
    go_wp2_with (first
      | (go_at_call 138; refine Calls.mono (sha_Sum.calls k A0 c0 l0 q _ HR0.out HC0.out HL0.out HL1.out HQ.out) ?_; rintro ee w1 ⟨v1, rfl, ho, hb⟩; obtain ⟨A1, c1', rfl⟩ := Kd.R_slice ho; have HO1 := Aside0.mk ho; have HB1 := Aside0.mk hb; clear ho hb)
      | ((with_reducible refine gate_dst (N := 9) rfl ?_); refine Kd.R_make (Kd.int .u8) (w0 := w) w.heap.size 5 rfl (N := 9) rfl 22 _ _ rfl 64 rfl rfl Try.underlying22 (.int .u8 0) 1 info5 rfl (by decide) (by decide) (0 : Int) (ok := fun _ => True) (okp := fun _ => False) rfl (fun _ h => h.elim) trivial (by decide) (by decide) HB1.out HB1.out.size ?_; intro v2 w2 ho hb hg hat; have HO2 := Aside0.mk ho; have HB2 := Aside0.mk hb; have HG2 := Aside0.mk hg; clear ho hb hg hat)
      | ((with_reducible refine gate_builtin (b := .copy) (xs := #[.tmp 10, .tmp 11]) rfl ?_); refine Kd.R_copy (enc := Value.int .u8) (h1 := fun _ => rfl) (0 : Int) (w0 := w) w.heap.size rfl (.tmp 10) (.tmp 11) 22 22 5 rfl Try.underlying22 (by kernel_rfl) _ (List.replicate (Int.toNat 64) (0 : Int)) q _ _ _ (fun _ => True) rfl rfl HO2.out (Kd.C_below (Kd.R_reads' HO1.out).2.2 ((Below.refl _ _).grown HG2.out (Nat.le_refl _) (fun k hk => by cases hk))) HB2.out HB2.out.size ?_; intro w3 ho hb hg; have HO3 := Aside0.mk ho; have HB3 := Aside0.mk hb; clear ho hb hg))
    go_ret
    exact ⟨_, rfl, (hmac_Block.padded q _ (Int.toNat 64) rfl rfl) ▸ HO3.out, HB3.out⟩
  · rw [if_neg h64] at h
    obtain rfl := Option.some.inj h
    have c1 : decide ((64 : Int) < (l0.length : Int)) = false := decide_eq_false (by omega)
    have c2 : decide (64 < l0.length) = false := decide_eq_false h64
    clear h
    go_enter Try.func143, Try.ntmps143
    go_wp2_with (first
      | ((with_reducible refine gate_dst (N := 9) rfl ?_); refine Kd.R_make (Kd.int .u8) (w0 := w) w.heap.size 5 rfl (N := 9) rfl 22 _ _ rfl 64 rfl rfl Try.underlying22 (.int .u8 0) 1 info5 rfl (by decide) (by decide) (0 : Int) (ok := fun _ => True) (okp := fun _ => False) rfl (fun _ h => h.elim) trivial (by decide) (by decide) (Below.refl _ _) (Nat.le_refl _) ?_; intro v2 w2 ho hb hg hat; have HO2 := Aside0.mk ho; have HB2 := Aside0.mk hb; have HG2 := Aside0.mk hg; clear ho hb hg hat)
      | ((with_reducible refine gate_builtin (b := .copy) (xs := #[.tmp 10, .tmp 11]) rfl ?_); refine Kd.R_copy (enc := Value.int .u8) (h1 := fun _ => rfl) (0 : Int) (w0 := w) w.heap.size rfl (.tmp 10) (.tmp 11) 22 22 5 rfl Try.underlying22 (by kernel_rfl) _ (List.replicate (Int.toNat 64) (0 : Int)) l0 _ _ _ (fun _ => True) rfl rfl HO2.out (Kd.C_below HR0.out ((Below.refl _ _).grown HG2.out (Nat.le_refl _) (fun k hk => by cases hk))) HB2.out HB2.out.size ?_; intro w3 ho hb hg; have HO3 := Aside0.mk ho; have HB3 := Aside0.mk hb; clear ho hb hg))
    go_ret
    exact ⟨_, rfl, (hmac_Block.padded l0 _ (Int.toNat 64) rfl rfl) ▸ HO3.out, HB3.out⟩

end Go.Proofs.Ytnpkhkhlofkbhaa.PMacSymbolic
