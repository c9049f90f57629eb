-- made by a program of this session (its printer) out of what Lean prints of the given program
import Derived.Test.YtnpkhkhlofkbhaaPDiskRightx0
namespace Go.Proofs.Ytnpkhkhlofkbhaa.PDiskRight
open Go.RowKit Go.Proofs.YtnpkhkhlofkbhaaW.PrintWords Go.Proofs.YtnpkhkhlofkbhaaW.PrintLast Go.Proofs.YtnpkhkhlofkbhaaW.PrintMore
attribute [local go_sem] max2_int min2_int max_two min_two max_three min_three max_four min_four   -- for this text's walks alone
set_option linter.unusedVariables false
set_option linter.unusedSimpArgs false

/-! ### disk_New: function 54 -/
def disk_New.f  : Option (List Int × Int × List Int × Int × Int × Int × Bool) := some (([] : List Int), 0, ([] : List Int), 0, (-1), 0, false)
set_option maxHeartbeats 8000000 in
set_option maxRecDepth 100000 in
theorem disk_New.calls  (r1 : List Int) (r2 : Int) (r3 : List Int) (r4 : Int) (r5 : Int) (r6 : Int) (r7 : Bool) (w : World) (h : disk_New.f  = some (r1, r2, r3, r4, r5, r6, r7)) :
   Calls Try.prog 54 #[] w fun e w' => ∃ v0_ v2_ : Value, e = .returned (.agg #[v0_, .int .i64 r2, v2_, .int .i64 r4, .int .i64 r5, .int .i64 r6, .bool r7]) ∧ Kd.R (Kd.int .u8) 5 w' w.heap.size (fun k_ => some k_ ≠ (v2_ : Value).ownBlock) v0_ r1 ∧ Kd.R (Kd.int .u8) 5 w' w.heap.size (fun k_ => some k_ ≠ (v0_ : Value).ownBlock) v2_ r3 ∧ Below w.heap.size w w' := by
  have hu74 := Try.underlying74
  have HB := aM (Below.refl w.heap.size w); have H : (some (([] : List Int), 0, ([] : List Int), 0, (-1), 0, false)) = some (r1, r2, r3, r4, r5, r6, r7) := h
  clear h; simp only [Option.some.injEq, Prod.mk.injEq] at H
  obtain ⟨rfl, rfl, rfl, rfl, rfl, rfl, rfl⟩ := H
  go_enter Try.func54, Try.ntmps54
  go_wp2_with (first | ((with_reducible refine gate_dst (N := 0) rfl ?_); refine box_event ?hg (N := 0) ?hd (cs := #[.slice none 0 0, .int .i64 0, .slice none 0 0, .int .i64 0, .int .i64 0, .int .i64 0, .bool false]) (t := 74) ?hr ?_; (case hd => rfl); (case hg => rfl); (case hr => first | (go_simp; done) | (go_simp; rfl)); intro gb101 hg w1 hbox hb; have n0_ := sB HB hb; have n1_ := aM (hbox); have n2_ := aM ((by rw [hg]; exact (below_size (sG HB)) : w.heap.size ≤ gb101)); have n3_ := aM ((by rw [hg]; exact (below_size (sG HB)) : w.heap.size ≤ gb101)); clear HB; have HB := n0_; have BK101 := n1_; have GW101 := n2_; have GE101 := n3_; clear n0_ n1_ n2_ n3_; clear hb hbox hg; have hcz2_0 := cB BK101 0 (.slice none 0 0) rfl; have hcz2_1 := cB BK101 1 (.int .i64 0) rfl; have hcz2_2 := cB BK101 2 (.slice none 0 0) rfl; have hcz2_3 := cB BK101 3 (.int .i64 0) rfl; have hcz2_4 := cB BK101 4 (.int .i64 0) rfl; have hcz2_5 := cB BK101 5 (.int .i64 0) rfl; have hcz2_6 := cB BK101 6 (.bool false) rfl; have hfz2_0 := blk_frozen BK101.out 0; have hfz2_1 := blk_frozen BK101.out 1; have hfz2_2 := blk_frozen BK101.out 2; have hfz2_3 := blk_frozen BK101.out 3; have hfz2_4 := blk_frozen BK101.out 4; have hfz2_5 := blk_frozen BK101.out 5; have hfz2_6 := blk_frozen BK101.out 6))
  refine bodyPost_ret (results_cell_row rfl _ _ gb101 74 #[.slice none 0 0, .int .i64 0, .slice none 0 0, .int .i64 0, .int .i64 (-1), .int .i64 0, .bool false] (0, 0) _ rfl (by (with_reducible repeat (first | refine blk_drewN ?_ _ | refine blk_drew ?_ | refine blk_alloc ?_ _)); refine blk_put (cs := #[.slice none 0 0, .int .i64 0, .slice none 0 0, .int .i64 0, .int .i64 (-1), .int .i64 0, .bool false]) ?_ 6 _ rfl; (with_reducible repeat (first | refine blk_drewN ?_ _ | refine blk_drew ?_ | refine blk_alloc ?_ _)); refine blk_put (cs := #[.slice none 0 0, .int .i64 0, .slice none 0 0, .int .i64 0, .int .i64 (-1), .int .i64 0, .bool false]) ?_ 5 _ rfl; (with_reducible repeat (first | refine blk_drewN ?_ _ | refine blk_drew ?_ | refine blk_alloc ?_ _)); refine blk_put (cs := #[.slice none 0 0, .int .i64 0, .slice none 0 0, .int .i64 0, .int .i64 0, .int .i64 0, .bool false]) ?_ 4 _ rfl; (with_reducible repeat (first | refine blk_drewN ?_ _ | refine blk_drew ?_ | refine blk_alloc ?_ _)); refine blk_put (cs := #[.slice none 0 0, .int .i64 0, .slice none 0 0, .int .i64 0, .int .i64 0, .int .i64 0, .bool false]) ?_ 3 _ rfl; (with_reducible repeat (first | refine blk_drewN ?_ _ | refine blk_drew ?_ | refine blk_alloc ?_ _)); refine blk_put (cs := #[.slice none 0 0, .int .i64 0, .slice none 0 0, .int .i64 0, .int .i64 0, .int .i64 0, .bool false]) ?_ 2 _ rfl; (with_reducible repeat (first | refine blk_drewN ?_ _ | refine blk_drew ?_ | refine blk_alloc ?_ _)); refine blk_put (cs := #[.slice none 0 0, .int .i64 0, .slice none 0 0, .int .i64 0, .int .i64 0, .int .i64 0, .bool false]) ?_ 1 _ rfl; (with_reducible repeat (first | refine blk_drewN ?_ _ | refine blk_drew ?_ | refine blk_alloc ?_ _)); refine blk_put (cs := #[.slice none 0 0, .int .i64 0, .slice none 0 0, .int .i64 0, .int .i64 0, .int .i64 0, .bool false]) ?_ 0 _ rfl; (with_reducible repeat (first | refine blk_drewN ?_ _ | refine blk_drew ?_ | refine blk_alloc ?_ _)); exact BK101.out) Try.underlying74 rfl (by kernel_rfl)) rfl ?_
  exact ⟨_, _, by first | rfl | (simp [errW_none, errW_some] <;> rfl) | (simp [*, errW_none, errW_some] <;> rfl), by first | exact Kd.R_nil _ _ _ _ _ | exact Kd.N_nil _ _ _ _ _ | exact Kd.V_nil _ _ _ _ _ | exact Kd.Q_nil _ _ _ _ _ | exact Kd.S_nil _ _ _ _ _, by first | exact Kd.R_nil _ _ _ _ _ | exact Kd.N_nil _ _ _ _ _ | exact Kd.V_nil _ _ _ _ _ | exact Kd.Q_nil _ _ _ _ _ | exact Kd.S_nil _ _ _ _ _, by repeat (first | (with_reducible first | exact HB.out | apply bA | apply bN | apply bD | refine below_set ?_ GE101.out) | exact HB.out)⟩

/-- A state of type 74 at block g of W; what its slices lead to came in by w0. -/
def IsS74 (w0 W : World) (g : Nat) (f0 : List Int) (f1 : Int) (f2 : List Int) (f3 : Int) (f4 : Int) (f5 : Int) (f6 : Bool) : Prop := ∃ A0 c0, ∃ A2 c2, W.heap[g]? = some (.cells #[.slice A0 f0.length c0, .int .i64 f1, .slice A2 f2.length c2, .int .i64 f3, .int .i64 f4, .int .i64 f5, .bool f6] 74 (0, 0)) ∧ w0.heap.size ≤ g ∧ Kd.C (Kd.int .u8) w0 A0 f0.length f0 ∧ Kd.C (Kd.int .u8) w0 A2 f2.length f2
theorem IsS74.grown {w0 W : World} {g : Nat} {f0 : List Int} {f1 : Int} {f2 : List Int} {f3 : Int} {f4 : Int} {f5 : Int} {f6 : Bool} {W1 : World} {row : Option Nat} (h : IsS74 w0 W g f0 f1 f2 f3 f4 f5 f6) (hw : W.grownBy W1 row) (hne : some g ≠ row) : IsS74 w0 W1 g f0 f1 f2 f3 f4 f5 f6 := by
  obtain ⟨A0, c0, A2, c2, hb, hg, hr0, hr2⟩ := h
  exact ⟨A0, c0, A2, c2, blk_grown hb hw hne, hg, hr0, hr2⟩
theorem IsS74.own_neN {w0 W : World} {g : Nat} {f0 : List Int} {f1 : Int} {f2 : List Int} {f3 : Int} {f4 : Int} {f5 : Int} {f6 : Bool} {α : Type} {d : Kd α} {e : Nat} {base : Nat} {ok : Nat → Prop} {v : Value} {xs : List α} (h : IsS74 w0 W g f0 f1 f2 f3 f4 f5 f6) (ho : Kd.N d e W base ok v xs) (ht : e ≠ 74) : some g ≠ v.ownBlock := by
  obtain ⟨A0, c0, A2, c2, hb, hg, hr0, hr2⟩ := h
  exact Kd.N_ne ho hb ht
theorem IsS74.fresh {w0 W : World} {g : Nat} {f0 : List Int} {f1 : Int} {f2 : List Int} {f3 : Int} {f4 : Int} {f5 : Int} {f6 : Bool} (h : IsS74 w0 W g f0 f1 f2 f3 f4 f5 f6) : ∀ k, W.heap.size ≤ k → k ≠ g := by
  obtain ⟨A0, c0, A2, c2, hb, hg, hr0, hr2⟩ := h
  exact Kd.freshB hb
theorem IsS74.kept {w0 W : World} {g : Nat} {f0 : List Int} {f1 : Int} {f2 : List Int} {f3 : Int} {f4 : Int} {f5 : Int} {f6 : Bool} {W1 : World} {S : Nat → Prop} (h : IsS74 w0 W g f0 f1 f2 f3 f4 f5 f6) (hk : Kept W W1 S) (hne : ¬ S g) : IsS74 w0 W1 g f0 f1 f2 f3 f4 f5 f6 := by
  obtain ⟨A0, c0, A2, c2, hb, hg, hr0, hr2⟩ := h
  exact ⟨A0, c0, A2, c2, blk_kept hb hk hne, hg, hr0, hr2⟩
theorem IsS74.below {w0 W : World} {g : Nat} {f0 : List Int} {f1 : Int} {f2 : List Int} {f3 : Int} {f4 : Int} {f5 : Int} {f6 : Bool} {W1 : World} (h : IsS74 w0 W g f0 f1 f2 f3 f4 f5 f6) (hw : Below W.heap.size W W1) : IsS74 w0 W1 g f0 f1 f2 f3 f4 f5 f6 := h.grown (grown_of_below hw none) (by simp)
theorem IsS74.alloc {w0 W : World} {g : Nat} {f0 : List Int} {f1 : Int} {f2 : List Int} {f3 : Int} {f4 : Int} {f5 : Int} {f6 : Bool} (h : IsS74 w0 W g f0 f1 f2 f3 f4 f5 f6) (o : Obj) : IsS74 w0 (W.alloc o) g f0 f1 f2 f3 f4 f5 f6 := h.below (below_alloc (Below.refl _ _) o)
theorem IsS74.drewN {w0 W : World} {g : Nat} {f0 : List Int} {f1 : Int} {f2 : List Int} {f3 : Int} {f4 : Int} {f5 : Int} {f6 : Bool} (h : IsS74 w0 W g f0 f1 f2 f3 f4 f5 f6) (m : Nat) : IsS74 w0 (W.drewN m) g f0 f1 f2 f3 f4 f5 f6 := h
theorem IsS74.drew {w0 W : World} {g : Nat} {f0 : List Int} {f1 : Int} {f2 : List Int} {f3 : Int} {f4 : Int} {f5 : Int} {f6 : Bool} (h : IsS74 w0 W g f0 f1 f2 f3 f4 f5 f6) : IsS74 w0 W.drew g f0 f1 f2 f3 f4 f5 f6 := h
theorem IsS74.at_ {w0 W : World} {g : Nat} {f0 : List Int} {f1 : Int} {f2 : List Int} {f3 : Int} {f4 : Int} {f5 : Int} {f6 : Bool} {w' : World} {m : Nat} (hq : W.drewN m = w') (h : IsS74 w0 W g f0 f1 f2 f3 f4 f5 f6) : IsS74 w0 w' g f0 f1 f2 f3 f4 f5 f6 := by subst hq; exact IsS74.drewN h m
theorem IsS74.apart {w0 W : World} {g : Nat} {f0 : List Int} {f1 : Int} {f2 : List Int} {f3 : Int} {f4 : Int} {f5 : Int} {f6 : Bool} {α : Type} {d : Kd α} {e : Nat} {base : Nat} {ok : Nat → Prop} {v : Value} {xs : List α} (h : IsS74 w0 W g f0 f1 f2 f3 f4 f5 f6) (ho : d.R e W base ok v xs) (ht : ∀ q, q ∈ e :: d.E → q ≠ 74) : d.R e W base (fun k => ok k ∧ k ≠ g) v xs := by
  obtain ⟨A0, c0, A2, c2, hb, hg, hr0, hr2⟩ := h
  exact Kd.R_types ho hb ht
theorem IsS74.own_ne {w0 W : World} {g : Nat} {f0 : List Int} {f1 : Int} {f2 : List Int} {f3 : Int} {f4 : Int} {f5 : Int} {f6 : Bool} {α : Type} {d : Kd α} {e : Nat} {base : Nat} {ok : Nat → Prop} {v : Value} {xs : List α} (h : IsS74 w0 W g f0 f1 f2 f3 f4 f5 f6) (ho : d.R e W base ok v xs) (ht : e ≠ 74) : some g ≠ v.ownBlock := by
  obtain ⟨A0, c0, A2, c2, hb, hg, hr0, hr2⟩ := h
  exact Kd.R_ne ho hb ht
theorem IsS74.apartQ {w0 W : World} {g : Nat} {f0 : List Int} {f1 : Int} {f2 : List Int} {f3 : Int} {f4 : Int} {f5 : Int} {f6 : Bool} {α : Type} {d : Kd α} {e : Nat} {base : Nat} {ok : Nat → Prop} {v : Value} {xs : List α} (h : IsS74 w0 W g f0 f1 f2 f3 f4 f5 f6) (ho : d.Q e W base ok v xs) (ht : ∀ q, q ∈ e :: d.E → q ≠ 74) : d.Q e W base (fun k => ok k ∧ k ≠ g) v xs := by
  obtain ⟨A0, c0, A2, c2, hb, hg, hr0, hr2⟩ := h
  exact Kd.Q_types ho hb ht
theorem IsS74.own_neQ {w0 W : World} {g : Nat} {f0 : List Int} {f1 : Int} {f2 : List Int} {f3 : Int} {f4 : Int} {f5 : Int} {f6 : Bool} {α : Type} {d : Kd α} {e : Nat} {base : Nat} {ok : Nat → Prop} {v : Value} {xs : List α} (h : IsS74 w0 W g f0 f1 f2 f3 f4 f5 f6) (ho : d.Q e W base ok v xs) (ht : e ≠ 74) : some g ≠ v.ownBlock := by
  obtain ⟨A0, c0, A2, c2, hb, hg, hr0, hr2⟩ := h
  exact Kd.Q_ne ho hb ht
theorem IsS74.apartS {w0 W : World} {g : Nat} {f0 : List Int} {f1 : Int} {f2 : List Int} {f3 : Int} {f4 : Int} {f5 : Int} {f6 : Bool} {α : Type} {d : Kd α} {e : Nat} {base : Nat} {ok : Nat → Prop} {v : Value} {xs : List α} (h : IsS74 w0 W g f0 f1 f2 f3 f4 f5 f6) (ho : d.S e W base ok v xs) (ht : ∀ q, q ∈ e :: d.E → q ≠ 74) : d.S e W base (fun k => ok k ∧ k ≠ g) v xs := by
  obtain ⟨A0, c0, A2, c2, hb, hg, hr0, hr2⟩ := h
  exact Kd.S_types ho hb ht
theorem IsS74.own_neS {w0 W : World} {g : Nat} {f0 : List Int} {f1 : Int} {f2 : List Int} {f3 : Int} {f4 : Int} {f5 : Int} {f6 : Bool} {α : Type} {d : Kd α} {e : Nat} {base : Nat} {ok : Nat → Prop} {v : Value} {xs : List α} (h : IsS74 w0 W g f0 f1 f2 f3 f4 f5 f6) (ho : d.S e W base ok v xs) (ht : e ≠ 74) : some g ≠ v.ownBlock := by
  obtain ⟨A0, c0, A2, c2, hb, hg, hr0, hr2⟩ := h
  exact Kd.S_ne ho hb ht
theorem IsS74.lt {w0 W : World} {g : Nat} {f0 : List Int} {f1 : Int} {f2 : List Int} {f3 : Int} {f4 : Int} {f5 : Int} {f6 : Bool} (h : IsS74 w0 W g f0 f1 f2 f3 f4 f5 f6) : g < W.heap.size := by
  obtain ⟨A0, c0, A2, c2, hb, hg, hr0, hr2⟩ := h
  exact blk_lt hb
theorem IsS74.ge {w0 W : World} {g : Nat} {f0 : List Int} {f1 : Int} {f2 : List Int} {f3 : Int} {f4 : Int} {f5 : Int} {f6 : Bool} (h : IsS74 w0 W g f0 f1 f2 f3 f4 f5 f6) : w0.heap.size ≤ g := by
  obtain ⟨A0, c0, A2, c2, hb, hg, hr0, hr2⟩ := h
  exact hg
theorem IsS74.ne_blk {w0 W : World} {g : Nat} {f0 : List Int} {f1 : Int} {f2 : List Int} {f3 : Int} {f4 : Int} {f5 : Int} {f6 : Bool} {a : Nat} {cs : Array Value} {t : TypeId} {fr : Nat × Nat} (h : IsS74 w0 W g f0 f1 f2 f3 f4 f5 f6) (hb2 : W.heap[a]? = some (.cells cs t fr)) (ht : t ≠ 74) : g ≠ a := by
  obtain ⟨A0, c0, A2, c2, hb, hg, hr0, hr2⟩ := h
  rintro rfl
  rw [hb] at hb2
  injection hb2 with hb2
  injection hb2 with _ ht2
  exact ht ht2.symm
theorem IsS74.far {w0 W : World} {g : Nat} {f0 : List Int} {f1 : Int} {f2 : List Int} {f3 : Int} {f4 : Int} {f5 : Int} {f6 : Bool} {p : Addr} (h : IsS74 w0 W g f0 f1 f2 f3 f4 f5 f6) (hne : g ≠ p.block) (u : Value) : IsS74 w0 (W.setCell p u) g f0 f1 f2 f3 f4 f5 f6 := by
  obtain ⟨A0, c0, A2, c2, hb, hg, hr0, hr2⟩ := h
  exact ⟨A0, c0, A2, c2, blk_far hb hne u, hg, hr0, hr2⟩
theorem cellS74_0 {W : World} {g : Nat} {A0 : Option Addr} {c0 : Nat} {A2 : Option Addr} {c2 : Nat} {f0 : List Int} {f1 : Int} {f2 : List Int} {f3 : Int} {f4 : Int} {f5 : Int} {f6 : Bool} (h : W.heap[g]? = some (.cells #[.slice A0 f0.length c0, .int .i64 f1, .slice A2 f2.length c2, .int .i64 f3, .int .i64 f4, .int .i64 f5, .bool f6] 74 (0, 0))) : W.cell? ⟨g, 0, none⟩ = some (.slice A0 f0.length c0) := (blk_cell h 0).trans rfl
theorem cellS74_1 {W : World} {g : Nat} {A0 : Option Addr} {c0 : Nat} {A2 : Option Addr} {c2 : Nat} {f0 : List Int} {f1 : Int} {f2 : List Int} {f3 : Int} {f4 : Int} {f5 : Int} {f6 : Bool} (h : W.heap[g]? = some (.cells #[.slice A0 f0.length c0, .int .i64 f1, .slice A2 f2.length c2, .int .i64 f3, .int .i64 f4, .int .i64 f5, .bool f6] 74 (0, 0))) : W.cell? ⟨g, 1, none⟩ = some (.int .i64 f1) := (blk_cell h 1).trans rfl
theorem IsS74.set_1 {w0 W : World} {g : Nat} {f0 : List Int} {f1 : Int} {f2 : List Int} {f3 : Int} {f4 : Int} {f5 : Int} {f6 : Bool} (h : IsS74 w0 W g f0 f1 f2 f3 f4 f5 f6) (x : Int) : IsS74 w0 (W.setCell ⟨g, 1, none⟩ (.int .i64 x)) g f0 x f2 f3 f4 f5 f6 := by
  obtain ⟨A0, c0, A2, c2, hb, hg, hr0, hr2⟩ := h
  exact ⟨A0, c0, A2, c2, by simpa using blk_set hb 1 (.int .i64 x), hg, hr0, hr2⟩
theorem cellS74_2 {W : World} {g : Nat} {A0 : Option Addr} {c0 : Nat} {A2 : Option Addr} {c2 : Nat} {f0 : List Int} {f1 : Int} {f2 : List Int} {f3 : Int} {f4 : Int} {f5 : Int} {f6 : Bool} (h : W.heap[g]? = some (.cells #[.slice A0 f0.length c0, .int .i64 f1, .slice A2 f2.length c2, .int .i64 f3, .int .i64 f4, .int .i64 f5, .bool f6] 74 (0, 0))) : W.cell? ⟨g, 2, none⟩ = some (.slice A2 f2.length c2) := (blk_cell h 2).trans rfl
theorem cellS74_3 {W : World} {g : Nat} {A0 : Option Addr} {c0 : Nat} {A2 : Option Addr} {c2 : Nat} {f0 : List Int} {f1 : Int} {f2 : List Int} {f3 : Int} {f4 : Int} {f5 : Int} {f6 : Bool} (h : W.heap[g]? = some (.cells #[.slice A0 f0.length c0, .int .i64 f1, .slice A2 f2.length c2, .int .i64 f3, .int .i64 f4, .int .i64 f5, .bool f6] 74 (0, 0))) : W.cell? ⟨g, 3, none⟩ = some (.int .i64 f3) := (blk_cell h 3).trans rfl
theorem IsS74.set_3 {w0 W : World} {g : Nat} {f0 : List Int} {f1 : Int} {f2 : List Int} {f3 : Int} {f4 : Int} {f5 : Int} {f6 : Bool} (h : IsS74 w0 W g f0 f1 f2 f3 f4 f5 f6) (x : Int) : IsS74 w0 (W.setCell ⟨g, 3, none⟩ (.int .i64 x)) g f0 f1 f2 x f4 f5 f6 := by
  obtain ⟨A0, c0, A2, c2, hb, hg, hr0, hr2⟩ := h
  exact ⟨A0, c0, A2, c2, by simpa using blk_set hb 3 (.int .i64 x), hg, hr0, hr2⟩
theorem cellS74_4 {W : World} {g : Nat} {A0 : Option Addr} {c0 : Nat} {A2 : Option Addr} {c2 : Nat} {f0 : List Int} {f1 : Int} {f2 : List Int} {f3 : Int} {f4 : Int} {f5 : Int} {f6 : Bool} (h : W.heap[g]? = some (.cells #[.slice A0 f0.length c0, .int .i64 f1, .slice A2 f2.length c2, .int .i64 f3, .int .i64 f4, .int .i64 f5, .bool f6] 74 (0, 0))) : W.cell? ⟨g, 4, none⟩ = some (.int .i64 f4) := (blk_cell h 4).trans rfl
theorem IsS74.set_4 {w0 W : World} {g : Nat} {f0 : List Int} {f1 : Int} {f2 : List Int} {f3 : Int} {f4 : Int} {f5 : Int} {f6 : Bool} (h : IsS74 w0 W g f0 f1 f2 f3 f4 f5 f6) (x : Int) : IsS74 w0 (W.setCell ⟨g, 4, none⟩ (.int .i64 x)) g f0 f1 f2 f3 x f5 f6 := by
  obtain ⟨A0, c0, A2, c2, hb, hg, hr0, hr2⟩ := h
  exact ⟨A0, c0, A2, c2, by simpa using blk_set hb 4 (.int .i64 x), hg, hr0, hr2⟩
theorem cellS74_5 {W : World} {g : Nat} {A0 : Option Addr} {c0 : Nat} {A2 : Option Addr} {c2 : Nat} {f0 : List Int} {f1 : Int} {f2 : List Int} {f3 : Int} {f4 : Int} {f5 : Int} {f6 : Bool} (h : W.heap[g]? = some (.cells #[.slice A0 f0.length c0, .int .i64 f1, .slice A2 f2.length c2, .int .i64 f3, .int .i64 f4, .int .i64 f5, .bool f6] 74 (0, 0))) : W.cell? ⟨g, 5, none⟩ = some (.int .i64 f5) := (blk_cell h 5).trans rfl
theorem IsS74.set_5 {w0 W : World} {g : Nat} {f0 : List Int} {f1 : Int} {f2 : List Int} {f3 : Int} {f4 : Int} {f5 : Int} {f6 : Bool} (h : IsS74 w0 W g f0 f1 f2 f3 f4 f5 f6) (x : Int) : IsS74 w0 (W.setCell ⟨g, 5, none⟩ (.int .i64 x)) g f0 f1 f2 f3 f4 x f6 := by
  obtain ⟨A0, c0, A2, c2, hb, hg, hr0, hr2⟩ := h
  exact ⟨A0, c0, A2, c2, by simpa using blk_set hb 5 (.int .i64 x), hg, hr0, hr2⟩
theorem cellS74_6 {W : World} {g : Nat} {A0 : Option Addr} {c0 : Nat} {A2 : Option Addr} {c2 : Nat} {f0 : List Int} {f1 : Int} {f2 : List Int} {f3 : Int} {f4 : Int} {f5 : Int} {f6 : Bool} (h : W.heap[g]? = some (.cells #[.slice A0 f0.length c0, .int .i64 f1, .slice A2 f2.length c2, .int .i64 f3, .int .i64 f4, .int .i64 f5, .bool f6] 74 (0, 0))) : W.cell? ⟨g, 6, none⟩ = some (.bool f6) := (blk_cell h 6).trans rfl
theorem IsS74.set_6 {w0 W : World} {g : Nat} {f0 : List Int} {f1 : Int} {f2 : List Int} {f3 : Int} {f4 : Int} {f5 : Int} {f6 : Bool} (h : IsS74 w0 W g f0 f1 f2 f3 f4 f5 f6) (x : Bool) : IsS74 w0 (W.setCell ⟨g, 6, none⟩ (.bool x)) g f0 f1 f2 f3 f4 f5 x := by
  obtain ⟨A0, c0, A2, c2, hb, hg, hr0, hr2⟩ := h
  exact ⟨A0, c0, A2, c2, by simpa using blk_set hb 6 (.bool x), hg, hr0, hr2⟩
theorem IsS74.new (w0 W : World) (A0 : Option Addr) (c0 : Nat) (A2 : Option Addr) (c2 : Nat) (f0 : List Int) (f1 : Int) (f2 : List Int) (f3 : Int) (f4 : Int) (f5 : Int) (f6 : Bool) (hB : Below w0.heap.size w0 W) (hr0 : Kd.C (Kd.int .u8) w0 A0 f0.length f0) (hr2 : Kd.C (Kd.int .u8) w0 A2 f2.length f2) : IsS74 w0 (W.alloc (.cells #[.slice A0 f0.length c0, .int .i64 f1, .slice A2 f2.length c2, .int .i64 f3, .int .i64 f4, .int .i64 f5, .bool f6] 74)) W.heap.size f0 f1 f2 f3 f4 f5 f6 := ⟨A0, c0, A2, c2, by simpa using heap_alloc_new W _, hB.size, hr0, hr2⟩

/-! ### disk_Right: function 59 -/
def dk.ok (n : Nat) (s : Int) : Bool := decide (0 ≤ s) && (decide (s ≤ (n : Int)) && decide (n ≤ 1048576))
def dk.right (n0 : Nat) (s0 : Int) (n1 : Nat) (s1 fuse keep : Int) : Bool := dk.ok n0 s0 && (dk.ok n1 s1 && (decide (-1 ≤ fuse) && decide (0 ≤ keep)))
theorem dk.i0 (x0 x1 x2 x3 : Value) : ∀ w, (Instr.index 72 (.agg #[x0, x1, x2, x3]) (.int .i64 0)).run Try.prog w = .ok (.agg #[x0, x1]) w := fun _ => by kernel_rfl
theorem dk.i1 (x0 x1 x2 x3 : Value) : ∀ w, (Instr.index 72 (.agg #[x0, x1, x2, x3]) (.int .i64 1)).run Try.prog w = .ok (.agg #[x2, x3]) w := fun _ => by kernel_rfl
def disk_Right.f (l0_0 : List Int) (a0_1 : Int) (l0_2 : List Int) (a0_3 : Int) (a0_4 : Int) (a0_5 : Int) (a0_6 : Bool) : Option (Bool) := some (dk.right l0_0.length a0_1 l0_2.length a0_3 a0_4 a0_5)
set_option maxHeartbeats 3200000 in
set_option maxRecDepth 100000 in
theorem dk.w0 (A0 : Option Addr) (c0 n0 : Nat) (s0 : Int) (A1 : Option Addr) (c1 n1 : Nat) (s1 fuse keep : Int) (down : Bool) (w : World) (h0 : s0 < 0) :
    Calls Try.prog 59 #[.agg #[.slice A0 n0 c0, .int .i64 s0, .slice A1 n1 c1, .int .i64 s1, .int .i64 fuse, .int .i64 keep, .bool down]] w fun e w' => e = .returned (.bool (false)) ∧ Below w.heap.size w w' := by
  have i0 := dk.i0 (.slice A0 n0 c0) (.int .i64 s0) (.slice A1 n1 c1) (.int .i64 s1)
  have i1 := dk.i1 (.slice A0 n0 c0) (.int .i64 s0) (.slice A1 n1 c1) (.int .i64 s1)
  have b0 : decide (s0 < 0) = true := decide_eq_true h0
  clear h0
  go_enter Try.func59, Try.ntmps59
  go_wp2
  refine wp_loop_rounds 3 ?_
  rw [rounds_succ]
  go_wp2
  go_ret
  exact ⟨rfl, ((Below.refl _ _).alloc (Nat.le_refl _) _).alloc (by simp) _⟩
set_option maxHeartbeats 3200000 in
set_option maxRecDepth 100000 in
theorem dk.w1 (A0 : Option Addr) (c0 n0 : Nat) (s0 : Int) (A1 : Option Addr) (c1 n1 : Nat) (s1 fuse keep : Int) (down : Bool) (w : World) (h0 : ¬ s0 < 0) (h1 : (n0 : Int) < s0) :
    Calls Try.prog 59 #[.agg #[.slice A0 n0 c0, .int .i64 s0, .slice A1 n1 c1, .int .i64 s1, .int .i64 fuse, .int .i64 keep, .bool down]] w fun e w' => e = .returned (.bool (false)) ∧ Below w.heap.size w w' := by
  have i0 := dk.i0 (.slice A0 n0 c0) (.int .i64 s0) (.slice A1 n1 c1) (.int .i64 s1)
  have i1 := dk.i1 (.slice A0 n0 c0) (.int .i64 s0) (.slice A1 n1 c1) (.int .i64 s1)
  have b0 : decide (s0 < 0) = false := decide_eq_false h0
  have b1 : decide ((n0 : Int) < s0) = true := decide_eq_true h1
  clear h0 h1
  go_enter Try.func59, Try.ntmps59
  go_wp2
  refine wp_loop_rounds 3 ?_
  rw [rounds_succ]
  go_wp2
  go_ret
  exact ⟨rfl, ((Below.refl _ _).alloc (Nat.le_refl _) _).alloc (by simp) _⟩
set_option maxHeartbeats 3200000 in
set_option maxRecDepth 100000 in
theorem dk.w2 (A0 : Option Addr) (c0 n0 : Nat) (s0 : Int) (A1 : Option Addr) (c1 n1 : Nat) (s1 fuse keep : Int) (down : Bool) (w : World) (h0 : ¬ s0 < 0) (h1 : ¬ (n0 : Int) < s0) (h2 : (1048576 : Int) < (n0 : Int)) :
    Calls Try.prog 59 #[.agg #[.slice A0 n0 c0, .int .i64 s0, .slice A1 n1 c1, .int .i64 s1, .int .i64 fuse, .int .i64 keep, .bool down]] w fun e w' => e = .returned (.bool (false)) ∧ Below w.heap.size w w' := by
  have i0 := dk.i0 (.slice A0 n0 c0) (.int .i64 s0) (.slice A1 n1 c1) (.int .i64 s1)
  have i1 := dk.i1 (.slice A0 n0 c0) (.int .i64 s0) (.slice A1 n1 c1) (.int .i64 s1)
  have b0 : decide (s0 < 0) = false := decide_eq_false h0
  have b1 : decide ((n0 : Int) < s0) = false := decide_eq_false h1
  have b2 : decide ((1048576 : Int) < (n0 : Int)) = true := decide_eq_true h2
  clear h0 h1 h2
  go_enter Try.func59, Try.ntmps59
  go_wp2
  refine wp_loop_rounds 3 ?_
  rw [rounds_succ]
  go_wp2
  go_ret
  exact ⟨rfl, ((Below.refl _ _).alloc (Nat.le_refl _) _).alloc (by simp) _⟩
set_option maxHeartbeats 3200000 in
set_option maxRecDepth 100000 in
theorem dk.w3 (A0 : Option Addr) (c0 n0 : Nat) (s0 : Int) (A1 : Option Addr) (c1 n1 : Nat) (s1 fuse keep : Int) (down : Bool) (w : World) (h0 : ¬ s0 < 0) (h1 : ¬ (n0 : Int) < s0) (h2 : ¬ (1048576 : Int) < (n0 : Int)) (g0 : s1 < 0) :
    Calls Try.prog 59 #[.agg #[.slice A0 n0 c0, .int .i64 s0, .slice A1 n1 c1, .int .i64 s1, .int .i64 fuse, .int .i64 keep, .bool down]] w fun e w' => e = .returned (.bool (false)) ∧ Below w.heap.size w w' := by
  have i0 := dk.i0 (.slice A0 n0 c0) (.int .i64 s0) (.slice A1 n1 c1) (.int .i64 s1)
  have i1 := dk.i1 (.slice A0 n0 c0) (.int .i64 s0) (.slice A1 n1 c1) (.int .i64 s1)
  have b0 : decide (s0 < 0) = false := decide_eq_false h0
  have b1 : decide ((n0 : Int) < s0) = false := decide_eq_false h1
  have b2 : decide ((1048576 : Int) < (n0 : Int)) = false := decide_eq_false h2
  have b3 : decide (s1 < 0) = true := decide_eq_true g0
  clear h0 h1 h2 g0
  go_enter Try.func59, Try.ntmps59
  go_wp2
  refine wp_loop_rounds 3 ?_
  rw [rounds_succ]
  go_wp2
  rw [rounds_succ]
  go_wp2
  go_ret
  exact ⟨rfl, (((Below.refl _ _).alloc (Nat.le_refl _) _).alloc (by simp) _).alloc (by simp; omega) _⟩
set_option maxHeartbeats 3200000 in
set_option maxRecDepth 100000 in
theorem dk.w4 (A0 : Option Addr) (c0 n0 : Nat) (s0 : Int) (A1 : Option Addr) (c1 n1 : Nat) (s1 fuse keep : Int) (down : Bool) (w : World) (h0 : ¬ s0 < 0) (h1 : ¬ (n0 : Int) < s0) (h2 : ¬ (1048576 : Int) < (n0 : Int)) (g0 : ¬ s1 < 0) (g1 : (n1 : Int) < s1) :
    Calls Try.prog 59 #[.agg #[.slice A0 n0 c0, .int .i64 s0, .slice A1 n1 c1, .int .i64 s1, .int .i64 fuse, .int .i64 keep, .bool down]] w fun e w' => e = .returned (.bool (false)) ∧ Below w.heap.size w w' := by
  have i0 := dk.i0 (.slice A0 n0 c0) (.int .i64 s0) (.slice A1 n1 c1) (.int .i64 s1)
  have i1 := dk.i1 (.slice A0 n0 c0) (.int .i64 s0) (.slice A1 n1 c1) (.int .i64 s1)
  have b0 : decide (s0 < 0) = false := decide_eq_false h0
  have b1 : decide ((n0 : Int) < s0) = false := decide_eq_false h1
  have b2 : decide ((1048576 : Int) < (n0 : Int)) = false := decide_eq_false h2
  have b3 : decide (s1 < 0) = false := decide_eq_false g0
  have b4 : decide ((n1 : Int) < s1) = true := decide_eq_true g1
  clear h0 h1 h2 g0 g1
  go_enter Try.func59, Try.ntmps59
  go_wp2
  refine wp_loop_rounds 3 ?_
  rw [rounds_succ]
  go_wp2
  rw [rounds_succ]
  go_wp2
  go_ret
  exact ⟨rfl, (((Below.refl _ _).alloc (Nat.le_refl _) _).alloc (by simp) _).alloc (by simp; omega) _⟩
set_option maxHeartbeats 3200000 in
set_option maxRecDepth 100000 in
theorem dk.w5 (A0 : Option Addr) (c0 n0 : Nat) (s0 : Int) (A1 : Option Addr) (c1 n1 : Nat) (s1 fuse keep : Int) (down : Bool) (w : World) (h0 : ¬ s0 < 0) (h1 : ¬ (n0 : Int) < s0) (h2 : ¬ (1048576 : Int) < (n0 : Int)) (g0 : ¬ s1 < 0) (g1 : ¬ (n1 : Int) < s1) (g2 : (1048576 : Int) < (n1 : Int)) :
    Calls Try.prog 59 #[.agg #[.slice A0 n0 c0, .int .i64 s0, .slice A1 n1 c1, .int .i64 s1, .int .i64 fuse, .int .i64 keep, .bool down]] w fun e w' => e = .returned (.bool (false)) ∧ Below w.heap.size w w' := by
  have i0 := dk.i0 (.slice A0 n0 c0) (.int .i64 s0) (.slice A1 n1 c1) (.int .i64 s1)
  have i1 := dk.i1 (.slice A0 n0 c0) (.int .i64 s0) (.slice A1 n1 c1) (.int .i64 s1)
  have b0 : decide (s0 < 0) = false := decide_eq_false h0
  have b1 : decide ((n0 : Int) < s0) = false := decide_eq_false h1
  have b2 : decide ((1048576 : Int) < (n0 : Int)) = false := decide_eq_false h2
  have b3 : decide (s1 < 0) = false := decide_eq_false g0
  have b4 : decide ((n1 : Int) < s1) = false := decide_eq_false g1
  have b5 : decide ((1048576 : Int) < (n1 : Int)) = true := decide_eq_true g2
  clear h0 h1 h2 g0 g1 g2
  go_enter Try.func59, Try.ntmps59
  go_wp2
  refine wp_loop_rounds 3 ?_
  rw [rounds_succ]
  go_wp2
  rw [rounds_succ]
  go_wp2
  go_ret
  exact ⟨rfl, (((Below.refl _ _).alloc (Nat.le_refl _) _).alloc (by simp) _).alloc (by simp; omega) _⟩
set_option maxHeartbeats 3200000 in
set_option maxRecDepth 100000 in
theorem dk.w6 (A0 : Option Addr) (c0 n0 : Nat) (s0 : Int) (A1 : Option Addr) (c1 n1 : Nat) (s1 fuse keep : Int) (down : Bool) (w : World) (h0 : ¬ s0 < 0) (h1 : ¬ (n0 : Int) < s0) (h2 : ¬ (1048576 : Int) < (n0 : Int)) (g0 : ¬ s1 < 0) (g1 : ¬ (n1 : Int) < s1) (g2 : ¬ (1048576 : Int) < (n1 : Int)) (hf : ¬ -1 ≤ fuse) :
    Calls Try.prog 59 #[.agg #[.slice A0 n0 c0, .int .i64 s0, .slice A1 n1 c1, .int .i64 s1, .int .i64 fuse, .int .i64 keep, .bool down]] w fun e w' => e = .returned (.bool (false)) ∧ Below w.heap.size w w' := by
  have i0 := dk.i0 (.slice A0 n0 c0) (.int .i64 s0) (.slice A1 n1 c1) (.int .i64 s1)
  have i1 := dk.i1 (.slice A0 n0 c0) (.int .i64 s0) (.slice A1 n1 c1) (.int .i64 s1)
  have b0 : decide (s0 < 0) = false := decide_eq_false h0
  have b1 : decide ((n0 : Int) < s0) = false := decide_eq_false h1
  have b2 : decide ((1048576 : Int) < (n0 : Int)) = false := decide_eq_false h2
  have b3 : decide (s1 < 0) = false := decide_eq_false g0
  have b4 : decide ((n1 : Int) < s1) = false := decide_eq_false g1
  have b5 : decide ((1048576 : Int) < (n1 : Int)) = false := decide_eq_false g2
  have b6 : decide (-1 ≤ fuse) = false := decide_eq_false hf
  clear h0 h1 h2 g0 g1 g2 hf
  go_enter Try.func59, Try.ntmps59
  go_wp2
  refine wp_loop_rounds 3 ?_
  rw [rounds_succ]
  go_wp2
  rw [rounds_succ]
  go_wp2
  rw [rounds_succ]
  go_wp2
  go_ret
  exact ⟨rfl, (((Below.refl _ _).alloc (Nat.le_refl _) _).alloc (by simp) _).alloc (by simp; omega) _⟩
set_option maxHeartbeats 3200000 in
set_option maxRecDepth 100000 in
theorem dk.w7 (A0 : Option Addr) (c0 n0 : Nat) (s0 : Int) (A1 : Option Addr) (c1 n1 : Nat) (s1 fuse keep : Int) (down : Bool) (w : World) (h0 : ¬ s0 < 0) (h1 : ¬ (n0 : Int) < s0) (h2 : ¬ (1048576 : Int) < (n0 : Int)) (g0 : ¬ s1 < 0) (g1 : ¬ (n1 : Int) < s1) (g2 : ¬ (1048576 : Int) < (n1 : Int)) (hf : -1 ≤ fuse) :
    Calls Try.prog 59 #[.agg #[.slice A0 n0 c0, .int .i64 s0, .slice A1 n1 c1, .int .i64 s1, .int .i64 fuse, .int .i64 keep, .bool down]] w fun e w' => e = .returned (.bool (decide (0 ≤ keep))) ∧ Below w.heap.size w w' := by
  have i0 := dk.i0 (.slice A0 n0 c0) (.int .i64 s0) (.slice A1 n1 c1) (.int .i64 s1)
  have i1 := dk.i1 (.slice A0 n0 c0) (.int .i64 s0) (.slice A1 n1 c1) (.int .i64 s1)
  have b0 : decide (s0 < 0) = false := decide_eq_false h0
  have b1 : decide ((n0 : Int) < s0) = false := decide_eq_false h1
  have b2 : decide ((1048576 : Int) < (n0 : Int)) = false := decide_eq_false h2
  have b3 : decide (s1 < 0) = false := decide_eq_false g0
  have b4 : decide ((n1 : Int) < s1) = false := decide_eq_false g1
  have b5 : decide ((1048576 : Int) < (n1 : Int)) = false := decide_eq_false g2
  have b6 : decide (-1 ≤ fuse) = true := decide_eq_true hf
  clear h0 h1 h2 g0 g1 g2 hf
  go_enter Try.func59, Try.ntmps59
  go_wp2
  refine wp_loop_rounds 3 ?_
  rw [rounds_succ]
  go_wp2
  rw [rounds_succ]
  go_wp2
  rw [rounds_succ]
  go_wp2
  go_ret
  exact ⟨rfl, (((Below.refl _ _).alloc (Nat.le_refl _) _).alloc (by simp) _).alloc (by simp; omega) _⟩
theorem dk.okf {n : Nat} {s : Int} (h : s < 0 ∨ (n : Int) < s ∨ (1048576 : Int) < (n : Int)) : dk.ok n s = false := by
  unfold dk.ok
  rw [Bool.eq_false_iff]
  simp only [ne_eq, Bool.and_eq_true, decide_eq_true_eq]
  omega
theorem dk.okt {n : Nat} {s : Int} (h0 : ¬ s < 0) (h1 : ¬ (n : Int) < s) (h2 : ¬ (1048576 : Int) < (n : Int)) : dk.ok n s = true := by
  unfold dk.ok
  simp only [Bool.and_eq_true, decide_eq_true_eq]
  omega
theorem dk.walk (A0 : Option Addr) (c0 n0 : Nat) (s0 : Int) (A1 : Option Addr) (c1 n1 : Nat) (s1 fuse keep : Int) (down : Bool) (w : World) :
    Calls Try.prog 59 #[.agg #[.slice A0 n0 c0, .int .i64 s0, .slice A1 n1 c1, .int .i64 s1, .int .i64 fuse, .int .i64 keep, .bool down]] w fun e w' => e = .returned (.bool (dk.right n0 s0 n1 s1 fuse keep)) ∧ Below w.heap.size w w' := by
  unfold dk.right
  by_cases h0 : s0 < 0
  · rw [dk.okf (.inl h0)]; exact dk.w0 A0 c0 n0 s0 A1 c1 n1 s1 fuse keep down w h0
  by_cases h1 : (n0 : Int) < s0
  · rw [dk.okf (.inr (.inl h1))]; exact dk.w1 A0 c0 n0 s0 A1 c1 n1 s1 fuse keep down w h0 h1
  by_cases h2 : (1048576 : Int) < (n0 : Int)
  · rw [dk.okf (.inr (.inr h2))]; exact dk.w2 A0 c0 n0 s0 A1 c1 n1 s1 fuse keep down w h0 h1 h2
  rw [dk.okt h0 h1 h2]
  by_cases g0 : s1 < 0
  · rw [dk.okf (.inl g0)]; exact dk.w3 A0 c0 n0 s0 A1 c1 n1 s1 fuse keep down w h0 h1 h2 g0
  by_cases g1 : (n1 : Int) < s1
  · rw [dk.okf (.inr (.inl g1))]; exact dk.w4 A0 c0 n0 s0 A1 c1 n1 s1 fuse keep down w h0 h1 h2 g0 g1
  by_cases g2 : (1048576 : Int) < (n1 : Int)
  · rw [dk.okf (.inr (.inr g2))]; exact dk.w5 A0 c0 n0 s0 A1 c1 n1 s1 fuse keep down w h0 h1 h2 g0 g1 g2
  rw [dk.okt g0 g1 g2]
  by_cases hf : -1 ≤ fuse
  · rw [decide_eq_true hf]; exact dk.w7 A0 c0 n0 s0 A1 c1 n1 s1 fuse keep down w h0 h1 h2 g0 g1 g2 hf
  · rw [decide_eq_false hf]; exact dk.w6 A0 c0 n0 s0 A1 c1 n1 s1 fuse keep down w h0 h1 h2 g0 g1 g2 hf
theorem disk_Right.calls (A0_0 : Option Addr) (c0_0 : Nat) (l0_0 : List Int) (a0_1 : Int) (A0_2 : Option Addr) (c0_2 : Nat) (l0_2 : List Int) (a0_3 : Int) (a0_4 : Int) (a0_5 : Int) (a0_6 : Bool) (r : Bool) (w : World) (hr0_0 : Kd.C (Kd.int .u8) w A0_0 l0_0.length l0_0) (hc0_0 : l0_0.length ≤ c0_0) (hr0_2 : Kd.C (Kd.int .u8) w A0_2 l0_2.length l0_2) (hc0_2 : l0_2.length ≤ c0_2) (h : disk_Right.f l0_0 a0_1 l0_2 a0_3 a0_4 a0_5 a0_6 = some r) :
    Calls Try.prog 59 #[.agg #[.slice A0_0 l0_0.length c0_0, .int .i64 a0_1, .slice A0_2 l0_2.length c0_2, .int .i64 a0_3, .int .i64 a0_4, .int .i64 a0_5, .bool a0_6]] w fun e w' => e = .returned (.bool r) ∧ Below w.heap.size w w' := by
  unfold disk_Right.f at h
  obtain rfl := Option.some.inj h
  exact dk.walk A0_0 c0_0 l0_0.length a0_1 A0_2 c0_2 l0_2.length a0_3 a0_4 a0_5 a0_6 w

/-! ### slices_Clone_byte_byte: function 90 -/
def slices_Clone_byte_byte.f (l0 : List Int) : Option (List Int) := if l0.length < 140737488355328 then some l0 else none
set_option maxHeartbeats 8000000 in
set_option maxRecDepth 100000 in
theorem slices_Clone_byte_byte.calls (A0 : Option Addr) (c0 : Nat) (l0 : List Int) (r : List Int) (w : World) (hr0 : Kd.C (Kd.int .u8) w A0 l0.length l0) (hc0 : l0.length ≤ c0) (h : slices_Clone_byte_byte.f l0 = some r) :
    Calls Try.prog 90 #[.slice A0 l0.length c0] w fun e w' => ∃ v0_ : Value, e = .returned (v0_) ∧ Kd.R (Kd.int .u8) 5 w' w.heap.size (fun _ => True) v0_ r ∧ Below w.heap.size w w' := by
  unfold slices_Clone_byte_byte.f at h
  by_cases hl : l0.length < 140737488355328
  · rw [if_pos hl] at h
    obtain rfl := Option.some.inj h
    have heq := fun (W : World) (a : Option Addr) (n c : Nat) => LazyBufEq W 22 5 a n c (P := Try.prog) Try.underlying22
    cases A0 with
    | none =>
      have h0 : l0 = [] := by
        rcases Nat.eq_zero_or_pos l0.length with h0 | h0
        · exact List.eq_nil_of_length_eq_zero h0
        · obtain ⟨_, e, _⟩ := hr0.2.2 h0; cases e
      subst h0
      go_enter Try.func90, Try.ntmps90
      go_wp2
      go_ret
      exact ⟨_, rfl, Kd.R_nil _ _ _ _ _, Below.refl _ _⟩
    | some ad =>
      have HR0 := Aside0.mk hr0
      have HL := Aside0.mk hl
      clear hr0 hl h
      go_enter Try.func90, Try.ntmps90
      go_wp2_with (first
        | ((with_reducible refine gate_dst (N := 5) rfl ?_); refine Kd.R_lit (Kd.int .u8) _ 5 ?hg (N := 5) ?hd (xs := ([] : List Int)) (inner := []) (ok := fun _ => True) (okp := fun _ => True) ?hr ?hp (fun _ hk => hk) trivial (Below.refl _ _) (Nat.le_refl _) (by simp) ?_; (case hd => rfl); (case hg => rfl); (case hr => first | (go_simp; done) | (go_simp; rfl)); (case hp => exact (Reps.none _ _)); intro v1 w1 ho hb _ _; have HO := Aside0.mk ho; have HB := Aside0.mk hb; clear ho hb)
        | ((with_reducible refine gate_builtin (b := .append) (xs := #[.tmp 5, .tmp 6]) rfl ?_); at_builtin; refine Kd.R_append_rows (Kd.int .u8) (w0 := w) w.heap.size rfl (.tmp 5) (.tmp 6) 22 5 (.int .u8 0) 1 rfl Try.underlying22 info5 rfl (by decide) (by omega) v1 [] l0 _ _ _ (fun _ => True) (fun _ => False) rfl rfl ?aO ?aR (fun _ _ h => h) (fun _ h => h.elim) ?aF ?aB ?aS ?aL ?_; (case aR => exact Kd.C_below HR0.out HB.out); (case aB => exact HB.out); (case aF => exact (fun _ _ => trivial)); (case aO => exact HO.out); (case aS => exact HB.out.size); (case aL => have := HL.out; simp only [List.length_nil]; omega); intro v2 w2 ho hb hg hat; have HO2 := Aside0.mk ho; have HB2 := Aside0.mk hb; clear ho hb hg hat))
      go_ret
      exact ⟨_, rfl, by simpa using HO2.out, HB2.out⟩
  · rw [if_neg hl] at h; cases h

/-! ### slices_Concat_byte_byte: function 106 -/
def slices_Concat_byte_byte.rd (xs : List (List Int)) (i : Int) : (List Int) := xs.getD i.toNat ([] : List Int)
theorem slices_Concat_byte_byte.at_ {w : World} {A : Option Addr} {n : Nat} {xs : List (List Int)} (h : Kd.C (Kd.slice 5 (Kd.int .u8)) w A n xs) (i : Int) (h0 : 0 ≤ i) (h1 : i < n) : ∃ ad A0 c0, A = some ad ∧ w.cell? (ad.add i.toNat) = some (.slice A0 (slices_Concat_byte_byte.rd xs i).length c0) ∧ (slices_Concat_byte_byte.rd xs i).length ≤ c0 ∧ (Kd.int .u8).C w A0 (slices_Concat_byte_byte.rd xs i).length (slices_Concat_byte_byte.rd xs i) := by
  obtain ⟨ad, c, e, _, hK, hc0⟩ := Kd.C_get h ([] : List Int) i h0 h1
  have hc : ∀ j u, c[j]? = some u → w.cell? (ad.add (i.toNat * 1 + j)) = some u := hc0
  obtain ⟨A0, c0, rfl, l0, g0⟩ := hK
  exact ⟨ad, A0, c0, e, by have hq := hc 0 _ rfl; rwa [Nat.mul_one, Nat.add_zero] at hq, l0, g0⟩
set_option maxHeartbeats 8000000 in
set_option maxRecDepth 100000 in
theorem slices_Concat_byte_byte.grow (n : Nat) (w : World) (hn : n < 140737488355328) :
    Calls Try.prog 110 #[.slice none 0 0, .int .i64 n] w fun e w' => ∃ v0_ : Value, e = .returned (v0_) ∧ Kd.R (Kd.int .u8) 5 w' w.heap.size (fun _ => True) v0_ [] ∧ Below w.heap.size w w' := by
  have HN := Aside0.mk hn
  have hw0 : wrap64 (n : Int) = (n : Int) := by unfold wrap64; omega
  have hd0 : decide ((n : Int) < 0) = false := decide_eq_false (by omega)
  by_cases hz : n = 0
  · subst hz
    clear hn
    go_enter Try.func110, Try.ntmps110
    go_wp2
    go_ret
    exact ⟨_, rfl, Kd.R_nil _ _ _ _ _, Below.refl _ _⟩
  · have hd1 : decide (0 < (n : Int)) = true := decide_eq_true (by omega)
    have hd2 : decide ((0 : Int) < n) = true := decide_eq_true (by omega)
    have hd3 : 0 < n := by omega
    clear hn hz
    go_enter Try.func110, Try.ntmps110
    go_wp2_with ((with_reducible refine gate_builtin (b := .append) (xs := #[.tmp 20, .tmp 21]) rfl ?_); at_builtin; refine Kd.R_append_zeros (Kd.int .u8) (w0 := w) w.heap.size rfl (.tmp 20) (.tmp 21) 22 3 5 (.int .u8 0) 1 rfl Try.underlying22 Try.underlying3 info5 rfl (by decide) (by omega) (.slice none 0 0) [] 0 (n : Int) (fun _ => True) rfl (by first | rfl | exact congrArg (Value.int .i64) hw0) ?aZ ?aF (Kd.R_nil _ _ _ _ _) (by omega) (Below.refl _ _) (Nat.le_refl _) ?aL ?_; (case aZ => exact rfl); (case aF => exact (fun _ _ => trivial)); (case aL => have := HN.out; simp only [List.length_nil]; omega); intro v2 w2 ho hb hg hat; obtain ⟨A2, c2, e2⟩ := Kd.R_slice ho; cases e2; have HO2 := Aside0.mk ho; have HB2 := Aside0.mk hb; clear ho hb hg hat)
    go_ret
    exact ⟨_, rfl, by simpa using Kd.R_take HO2.out (Nat.zero_le _), HB2.out⟩
def slices_Concat_byte_byte.n (l0 : List (List Int)) (i : Nat) : Nat := (l0.take i).flatten.length
def slices_Concat_byte_byte.f (l0 : List (List Int)) : Option (List Int) := if l0.length < 140737488355328 ∧ l0.flatten.length < 140737488355328 then some l0.flatten else none
theorem slices_Concat_byte_byte.step (l0 : List (List Int)) (i : Nat) (h : i < l0.length) : (l0.take (i + 1)).flatten = (l0.take i).flatten ++ slices_Concat_byte_byte.rd l0 (i : Int) := by
  rw [List.take_add_one, List.flatten_append, List.getElem?_eq_getElem h]
  simp [slices_Concat_byte_byte.rd, h]
theorem slices_Concat_byte_byte.le_ (l0 : List (List Int)) (i : Nat) : slices_Concat_byte_byte.n l0 i ≤ l0.flatten.length := by
  unfold slices_Concat_byte_byte.n
  conv => rhs; rw [← List.take_append_drop i l0]
  rw [List.flatten_append, List.length_append]
  omega
set_option maxHeartbeats 8000000 in
set_option maxRecDepth 100000 in
theorem slices_Concat_byte_byte.calls (A0 : Option Addr) (c0 : Nat) (l0 : List (List Int)) (r : List Int) (w : World) (hr0 : Kd.C (Kd.slice 5 (Kd.int .u8)) w A0 l0.length l0) (hc0 : l0.length ≤ c0) (h : slices_Concat_byte_byte.f l0 = some r) :
    Calls Try.prog 106 #[.slice A0 l0.length c0] w fun e w' => ∃ v0_ : Value, e = .returned (v0_) ∧ Kd.R (Kd.int .u8) 5 w' w.heap.size (fun _ => True) v0_ r ∧ Below w.heap.size w w' := by
  unfold slices_Concat_byte_byte.f at h
  by_cases hl : l0.length < 140737488355328 ∧ l0.flatten.length < 140737488355328
  · rw [if_pos hl] at h
    obtain rfl := Option.some.inj h
    have HR0 := Aside0.mk hr0
    have HC0 := Aside0.mk hc0
    have HL1 := Aside0.mk hl.1
    have HL2 := Aside0.mk hl.2
    clear hr0 hc0 h hl
    go_enter Try.func106, Try.ntmps106
    go_wp2
    go_loopg [3, 11] (l0.length + 1) (fun kq v3 v11 w' => ∃ i : Nat, v3 = .int .i64 (slices_Concat_byte_byte.n l0 i : Int) ∧ v11 = .int .i64 (i : Int) ∧ i ≤ l0.length ∧ Aside0 (l0.length < kq + i) ∧ Aside0 (kq ≤ l0.length + 1) ∧ w' = w)
    case atStart => exact ⟨0, rfl, rfl, Nat.zero_le _, ⟨by omega⟩, ⟨Nat.le_refl _⟩, rfl⟩
    case round =>
      obtain ⟨i, rfl, rfl, hi, HF, HK, hw⟩ := hrel
      subst wr
      rcases Nat.lt_or_ge i l0.length with hlt | hge
      · have c1 : decide ((i : Int) < (l0.length : Int)) = true := decide_eq_true (by omega)
        obtain ⟨ad, B, cb, e1, hx, hcb, hin⟩ := slices_Concat_byte_byte.at_ HR0.out (i : Int) (by omega) (by omega)
        cases e1
        simp only [Int.toNat_natCast] at hx
        have p1 := eq_true (show (0 : Int) ≤ (i : Int) by omega)
        have q1 := eq_true (show (i : Int) < (l0.length : Int) by omega)
        have hst := slices_Concat_byte_byte.step l0 i hlt
        have hle := slices_Concat_byte_byte.le_ l0 (i + 1)
        have hlen : slices_Concat_byte_byte.n l0 (i + 1) = slices_Concat_byte_byte.n l0 i + (slices_Concat_byte_byte.rd l0 (i : Int)).length := by unfold slices_Concat_byte_byte.n; rw [hst, List.length_append]
        have hw1 : wrap64 ((slices_Concat_byte_byte.n l0 i : Int) + ((slices_Concat_byte_byte.rd l0 (i : Int)).length : Int)) = (slices_Concat_byte_byte.n l0 (i + 1) : Int) := by have := HL2.out; unfold wrap64; omega
        have HW2 := Aside0.mk (show wrap64 ((i : Int) + 1) = ((i + 1 : Nat) : Int) by have := HL1.out; unfold wrap64; omega)
        have c2 : decide ((slices_Concat_byte_byte.n l0 (i + 1) : Int) < 0) = false := decide_eq_false (by omega)
        have HW1 := Aside0.mk hw1
        clear hst hle hlen
        go_wp2
        obtain ⟨k2, hk2⟩ : ∃ k2, gk = k2 + 1 := ⟨gk - 1, by have := HF.out; omega⟩
        subst hk2
        go_roundg k2
        case measure => have := HK.out; omega
        case rel => exact ⟨i + 1, by first | rfl | exact congrArg (Value.int .i64) HW1.out, congrArg (Value.int .i64) HW2.out, by omega, ⟨by have := HF.out; omega⟩, ⟨by have := HK.out; omega⟩, rfl⟩
      · have hi9 : i = l0.length := by omega
        subst hi9
        have c1 : decide ((l0.length : Int) < (l0.length : Int)) = false := decide_eq_false (by omega)
        have hn9 : slices_Concat_byte_byte.n l0 l0.length = l0.flatten.length := by unfold slices_Concat_byte_byte.n; rw [List.take_length]
        have HL2' := Aside0.mk (show slices_Concat_byte_byte.n l0 l0.length < 140737488355328 by have := HL2.out; omega)
        have HN9 := Aside0.mk hn9
        clear hn9
        go_wp2_with (go_at_call 110; (with_reducible refine (slices_Concat_byte_byte.grow (slices_Concat_byte_byte.n l0 l0.length) _ ?s1).mono ?_); (case s1 => exact HL2'.out); rintro e w1 ⟨v1, rfl, ho, hb⟩; have HO := Aside0.mk ho; have HB := Aside0.mk hb; clear ho hb)
        obtain ⟨A1, e1, rfl⟩ := Kd.R_slice HO.out
        simp only [List.length_nil] at HO ⊢
        go_loopg [6, 27] (l0.length + 1) (fun kq v6 v27 w' => ∃ i : Nat, v27 = .int .i64 (i : Int) ∧ i ≤ l0.length ∧ Aside0 (l0.length < kq + i) ∧ Aside0 (kq ≤ l0.length + 1) ∧ Aside0 (Kd.R (Kd.int .u8) 5 w' w.heap.size (fun _ => True) v6 (l0.take i).flatten) ∧ Aside0 (Below w.heap.size w w'))
        case atStart => exact ⟨0, rfl, Nat.zero_le _, ⟨by omega⟩, ⟨Nat.le_refl _⟩, HO, HB⟩
        case round =>
          obtain ⟨i, rfl, hi, HF, HK, HO2, HB2⟩ := hrel
          obtain ⟨A3, c3, rfl⟩ := Kd.R_slice HO2.out
          rcases Nat.lt_or_ge i l0.length with hlt | hge
          · have c1 : decide ((i : Int) < (l0.length : Int)) = true := decide_eq_true (by omega)
            obtain ⟨ad, B, cb, e1, hx, hcb, hin⟩ := slices_Concat_byte_byte.at_ (Kd.C_below HR0.out HB2.out) (i : Int) (by omega) (by omega)
            cases e1
            have HIN := Aside0.mk hin
            simp only [Int.toNat_natCast] at hx
            have p1 := eq_true (show (0 : Int) ≤ (i : Int) by omega)
            have q1 := eq_true (show (i : Int) < (l0.length : Int) by omega)
            have HW2 := Aside0.mk (show wrap64 ((i : Int) + 1) = ((i + 1 : Nat) : Int) by have := HL1.out; unfold wrap64; omega)
            have HST := Aside0.mk (slices_Concat_byte_byte.step l0 i hlt)
            have HLE := Aside0.mk (show ((l0.take i).flatten.length + (slices_Concat_byte_byte.rd l0 (i : Int)).length) * 1 ≤ 140737488355328 by have h1 := slices_Concat_byte_byte.le_ l0 (i + 1); unfold slices_Concat_byte_byte.n at h1; rw [HST.out, List.length_append] at h1; have := HL2.out; omega)
            clear hin hcb
            go_wp2_with (((with_reducible refine gate_builtin (b := .append) (xs := #[.tmp 31, .tmp 32]) rfl ?_); at_builtin; refine Kd.R_append_rows (Kd.int .u8) (w0 := w) w.heap.size rfl (.tmp 31) (.tmp 32) 22 5 (.int .u8 0) 1 rfl Try.underlying22 info5 rfl (by decide) (by omega) _ (l0.take i).flatten (slices_Concat_byte_byte.rd l0 (i : Int)) _ _ _ (fun _ => True) (fun _ => False) rfl rfl ?aO ?aR (fun _ _ h => h) (fun _ h => h.elim) ?aF ?aB ?aS ?aL ?_; (case aR => exact HIN.out); (case aB => exact HB2.out); (case aF => exact (fun _ _ => trivial)); (case aO => exact HO2.out); (case aS => exact HB2.out.size); (case aL => exact HLE.out); intro v2 w2 ho hb hg hat; have HO4 := Aside0.mk ho; have HB4 := Aside0.mk hb; clear ho hb hg hat))
            obtain ⟨k2, hk2⟩ : ∃ k2, gk = k2 + 1 := ⟨gk - 1, by have := HF.out; omega⟩
            subst hk2
            go_roundg k2
            case measure => have := HK.out; omega
            case rel => exact ⟨i + 1, congrArg (Value.int .i64) HW2.out, by omega, ⟨by have := HF.out; omega⟩, ⟨by have := HK.out; omega⟩, ⟨HST.out ▸ HO4.out⟩, HB4⟩
          · have hi9 : i = l0.length := by omega
            subst hi9
            have c1 : decide ((l0.length : Int) < (l0.length : Int)) = false := decide_eq_false (by omega)
            go_wp2
            go_ret
            exact ⟨_, rfl, by simpa using HO2.out, HB2.out⟩
  · rw [if_neg hl] at h; cases h

end Go.Proofs.Ytnpkhkhlofkbhaa.PDiskRight
