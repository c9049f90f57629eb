-- made by a program of this session (its printer) out of what Lean prints of the given program
import Derived.Test.YtnpkhkhlofkbhaaPDiskRightx0
import Derived.Test.YtnpkhkhlofkbhaaPDiskRightx1
namespace Go.Proofs.Ytnpkhkhlofkbhaa.PDiskRight
open Go.RowKit Go.Proofs.YtnpkhkhlofkbhaaW.PrintWords Go.Proofs.YtnpkhkhlofkbhaaW.PrintLast Go.Proofs.YtnpkhkhlofkbhaaW.PrintMore
attribute [local go_sem] max2_int min2_int max_two min_two max_three min_three max_four min_four   -- for this text's walks alone
set_option linter.unusedVariables false
set_option linter.unusedSimpArgs false

/-! ### disk_lost: function 100 -/
theorem dl.i0 (x0 x1 x2 x3 : Value) : ∀ w, (Instr.index 72 (.agg #[x0, x1, x2, x3]) (.int .i64 0)).run Try.prog w = .ok (.agg #[x0, x1]) w := fun _ => by kernel_rfl
theorem dl.i1 (x0 x1 x2 x3 : Value) : ∀ w, (Instr.index 72 (.agg #[x0, x1, x2, x3]) (.int .i64 1)).run Try.prog w = .ok (.agg #[x2, x3]) w := fun _ => by kernel_rfl
theorem dl.mnc (a b : Int) : ((b < a) = True ∧ mn a b = b) ∨ ((b < a) = False ∧ mn a b = a) := by
  by_cases h : b < a
  · exact .inl ⟨eq_true h, if_pos h⟩
  · exact .inr ⟨eq_false h, if_neg h⟩
def dl.n (len : Nat) (s keep : Int) : Int := wrap64 (s + mn keep (wrap64 ((len : Int) - s)))
def disk_lost.f (l0_0 : List Int) (a0_1 : Int) (l0_2 : List Int) (a0_3 : Int) (a0_4 : Int) (a0_5 : Int) (a0_6 : Bool) (a1 : Int) : Option (List Int × Int × List Int × Int × Int × Int × Bool) :=
  if 0 ≤ dl.n l0_0.length a0_1 a1 ∧ dl.n l0_0.length a0_1 a1 ≤ (l0_0.length : Int) ∧ 0 ≤ dl.n l0_2.length a0_3 a1 ∧ dl.n l0_2.length a0_3 a1 ≤ (l0_2.length : Int) then
    (slices_Clone_byte_byte.f (l0_0.take (dl.n l0_0.length a0_1 a1).toNat)).bind fun r0 => (slices_Clone_byte_byte.f (l0_2.take (dl.n l0_2.length a0_3 a1).toNat)).bind fun r1 => some (r0, dl.n l0_0.length a0_1 a1, r1, dl.n l0_2.length a0_3 a1, -1, a0_5, true)
  else none
theorem dl.two (w : World) (o1 o2 : Obj) : ((w.alloc o1).alloc o2).heap[w.heap.size]? = some o1 ∧ ((w.alloc o1).alloc o2).heap[w.heap.size + 1]? = some o2 ∧ Below w.heap.size w ((w.alloc o1).alloc o2) ∧ ((w.alloc o1).alloc o2).heap.size = w.heap.size + 2 := by
  have e1 : (w.alloc o1).heap.size = w.heap.size + 1 := by simp
  have e2 : ((w.alloc o1).alloc o2).heap.size = (w.alloc o1).heap.size + 1 := by simp
  refine ⟨blk_alloc (blk_new w o1) _, ?_, (((Below.refl _ _).alloc (Nat.le_refl _) o1).alloc (by omega) o2), by omega⟩
  have := blk_new (w.alloc o1) o2
  rwa [e1] at this
def dl.Z : Array Value := #[.slice none 0 0, .int .i64 0, .slice none 0 0, .int .i64 0, .int .i64 0, .int .i64 0, .bool false]
/-- The disk's block, and the result's. -/
structure dl.St (w W : World) (x0 x1 x2 x3 x4 x5 x6 : Value) : Prop where
  d : W.heap[w.heap.size]? = some (.cells #[x0, x1, x2, x3, x4, x5, x6] 74)
  z : W.heap[w.heap.size + 1]? = some (.cells #[.slice none 0 0, .int .i64 0, .slice none 0 0, .int .i64 0, .int .i64 0, .int .i64 0, .bool false] 74)
  b : Below w.heap.size w W
section
variable {w W W' : World} {x0 x1 x2 x3 x4 x5 x6 : Value}
theorem dl.St.below (h : dl.St w W x0 x1 x2 x3 x4 x5 x6) (hb : Below W.heap.size W W') : dl.St w W' x0 x1 x2 x3 x4 x5 x6 := ⟨blk_below h.d hb, blk_below h.z hb, below_step h.b hb⟩
theorem dl.St.alloc (h : dl.St w W x0 x1 x2 x3 x4 x5 x6) (o : Obj) : dl.St w (W.alloc o) x0 x1 x2 x3 x4 x5 x6 := ⟨blk_alloc h.d o, blk_alloc h.z o, below_alloc h.b o⟩
theorem dl.St.set (h : dl.St w W x0 x1 x2 x3 x4 x5 x6) (i : Nat) (v : Value) {y0 y1 y2 y3 y4 y5 y6 : Value} (e : (#[x0, x1, x2, x3, x4, x5, x6] : Array Value).setIfInBounds i v = #[y0, y1, y2, y3, y4, y5, y6]) : dl.St w (W.setCell ⟨w.heap.size, i, none⟩ v) y0 y1 y2 y3 y4 y5 y6 :=
  ⟨blk_put h.d i v e, blk_far h.z (show w.heap.size + 1 ≠ w.heap.size by omega) v, below_set h.b (Nat.le_refl _)⟩
theorem dl.set7 {t : TypeId} {g : Nat} {y0 y1 y2 y3 y4 y5 y6 : Value} {a b c d e f k : Value} (h : W.heap[g]? = some (.cells #[y0, y1, y2, y3, y4, y5, y6] t (0, 0))) :
    (((((((W.setCell ⟨g, 0, none⟩ a).setCell ⟨g, 1, none⟩ b).setCell ⟨g, 2, none⟩ c).setCell ⟨g, 3, none⟩ d).setCell ⟨g, 4, none⟩ e).setCell ⟨g, 5, none⟩ f).setCell ⟨g, 6, none⟩ k).heap[g]? = some (.cells #[a, b, c, d, e, f, k] t (0, 0)) :=
  blk_put (cs := #[a, b, c, d, e, f, y6]) (blk_put (cs := #[a, b, c, d, e, y5, y6]) (blk_put (cs := #[a, b, c, d, y4, y5, y6]) (blk_put (cs := #[a, b, c, y3, y4, y5, y6]) (blk_put (cs := #[a, b, y2, y3, y4, y5, y6]) (blk_put (cs := #[a, y1, y2, y3, y4, y5, y6]) (blk_put h 0 a rfl) 1 b rfl) 2 c rfl) 3 d rfl) 4 e rfl) 5 f rfl) 6 k rfl
theorem dl.far7 {v : Value} {xs : List Int} {ok : Nat → Prop} {base g : Nat} (a b c d e f k : Value) (h : Kd.R (Kd.int .u8) 5 W base ok v xs) (hk : ∀ k_, ok k_ → k_ ≠ g) :
    Kd.R (Kd.int .u8) 5 (((((((W.setCell ⟨g, 0, none⟩ a).setCell ⟨g, 1, none⟩ b).setCell ⟨g, 2, none⟩ c).setCell ⟨g, 3, none⟩ d).setCell ⟨g, 4, none⟩ e).setCell ⟨g, 5, none⟩ f).setCell ⟨g, 6, none⟩ k) base ok v xs :=
  Kd.R_far (p := ⟨g, 6, none⟩) (Kd.R_far (p := ⟨g, 5, none⟩) (Kd.R_far (p := ⟨g, 4, none⟩) (Kd.R_far (p := ⟨g, 3, none⟩) (Kd.R_far (p := ⟨g, 2, none⟩) (Kd.R_far (p := ⟨g, 1, none⟩) (Kd.R_far (p := ⟨g, 0, none⟩) h hk a) hk b) hk c) hk d) hk e) hk f) hk k
theorem dl.below7 (a b c d e f k : Value) (h : Below w.heap.size w W) :
    Below w.heap.size w (((((((W.setCell ⟨w.heap.size + 1, 0, none⟩ a).setCell ⟨w.heap.size + 1, 1, none⟩ b).setCell ⟨w.heap.size + 1, 2, none⟩ c).setCell ⟨w.heap.size + 1, 3, none⟩ d).setCell ⟨w.heap.size + 1, 4, none⟩ e).setCell ⟨w.heap.size + 1, 5, none⟩ f).setCell ⟨w.heap.size + 1, 6, none⟩ k) := by
  have hg : w.heap.size ≤ w.heap.size + 1 := by omega
  exact below_set (below_set (below_set (below_set (below_set (below_set (below_set h hg) hg) hg) hg) hg) hg) hg
theorem dl.mv {B g i base : Nat} {x v : Value} {xs : List Int} {ok : Nat → Prop} (hg : g ≤ B) (hk : ∀ k_, ok k_ → B < k_) (h : Kd.R (Kd.int .u8) 5 W base ok v xs) : Kd.R (Kd.int .u8) 5 (W.setCell ⟨g, i, none⟩ x) base ok v xs :=
  Kd.R_far (p := ⟨g, i, none⟩) h (fun k_ hk_ => by have := hk k_ hk_; show k_ ≠ g; omega) x
end
set_option maxHeartbeats 3200000 in
set_option maxRecDepth 100000 in
theorem disk_lost.calls (A0_0 : Option Addr) (c0_0 : Nat) (l0_0 : List Int) (a0_1 : Int) (A0_2 : Option Addr) (c0_2 : Nat) (l0_2 : List Int) (a0_3 : Int) (a0_4 : Int) (a0_5 : Int) (a0_6 : Bool) (a1 : Int) (r1 : List Int) (r2 : Int) (r3 : List Int) (r4 : Int) (r5 : Int) (r6 : Int) (r7 : Bool) (w : World) (hr0_0 : Kd.C (Kd.int .u8) w A0_0 l0_0.length l0_0) (hc0_0 : l0_0.length ≤ c0_0) (hr0_2 : Kd.C (Kd.int .u8) w A0_2 l0_2.length l0_2) (hc0_2 : l0_2.length ≤ c0_2) (h : disk_lost.f l0_0 a0_1 l0_2 a0_3 a0_4 a0_5 a0_6 a1 = some (r1, r2, r3, r4, r5, r6, r7)) :
    Calls Try.prog 100 #[.agg #[.slice A0_0 l0_0.length c0_0, .int .i64 a0_1, .slice A0_2 l0_2.length c0_2, .int .i64 a0_3, .int .i64 a0_4, .int .i64 a0_5, .bool a0_6], .int .i64 a1] w fun e w' => ∃ v0_ v2_ : Value, e = .returned (.agg #[v0_, .int .i64 r2, v2_, .int .i64 r4, .int .i64 r5, .int .i64 r6, .bool r7]) ∧ Kd.R (Kd.int .u8) 5 w' w.heap.size (fun k_ => some k_ ≠ (v2_ : Value).ownBlock) v0_ r1 ∧ Kd.R (Kd.int .u8) 5 w' w.heap.size (fun k_ => some k_ ≠ (v0_ : Value).ownBlock) v2_ r3 ∧ Below w.heap.size w w' := by
  unfold disk_lost.f at h
  by_cases hc : 0 ≤ dl.n l0_0.length a0_1 a1 ∧ dl.n l0_0.length a0_1 a1 ≤ (l0_0.length : Int) ∧ 0 ≤ dl.n l0_2.length a0_3 a1 ∧ dl.n l0_2.length a0_3 a1 ≤ (l0_2.length : Int)
  case neg => rw [if_neg hc] at h; cases h
  rw [if_pos hc] at h
  obtain ⟨hn0, hn1, hm0, hm1⟩ := hc
  replace h := Option.bind_eq_some_iff.1 h
  obtain ⟨x0, hx0, h⟩ := h
  replace h := Option.bind_eq_some_iff.1 h
  obtain ⟨x1, hx1, h⟩ := h
  simp only [Option.some.injEq, Prod.mk.injEq] at h
  obtain ⟨rfl, hr2, rfl, hr4, rfl, rfl, rfl⟩ := h
  have hl0 : (l0_0.take (dl.n l0_0.length a0_1 a1).toNat).length = (dl.n l0_0.length a0_1 a1).toNat := by rw [List.length_take]; omega
  have hl1 : (l0_2.take (dl.n l0_2.length a0_3 a1).toNat).length = (dl.n l0_2.length a0_3 a1).toNat := by rw [List.length_take]; omega
  obtain ⟨i0, hi0, _, hsz, _⟩ := info_parts info5
  have hcut0 := cut_to (P := Try.prog) 22 5 .i64 Try.underlying22 hi0 A0_0 l0_0.length c0_0 _ hn0 hn1 hc0_0
  have hcut1 := cut_to (P := Try.prog) 22 5 .i64 Try.underlying22 hi0 A0_2 l0_2.length c0_2 _ hm0 hm1 hc0_2
  have k0 := Kd.C_take (m := (dl.n l0_0.length a0_1 a1).toNat) hr0_0 (by omega)
  have k1 := Kd.C_take (m := (dl.n l0_2.length a0_3 a1).toNat) hr0_2 (by omega)
  have j0 : (l0_0.take (dl.n l0_0.length a0_1 a1).toNat).length ≤ c0_0 := by omega
  have j1 : (l0_2.take (dl.n l0_2.length a0_3 a1).toNat).length ≤ c0_2 := by omega
  rw [← hl0] at hcut0
  rw [← hl1] at hcut1
  generalize l0_0.take (dl.n l0_0.length a0_1 a1).toNat = y0 at hx0 hcut0 k0 j0 hl0
  generalize l0_2.take (dl.n l0_2.length a0_3 a1).toNat = y1 at hx1 hcut1 k1 j1 hl1
  unfold dl.n at hcut0 hcut1 hr2 hr4
  obtain rfl := hr2
  obtain rfl := hr4
  obtain ⟨b0, b1, bb, bs⟩ := dl.two w (.cells #[.slice A0_0 l0_0.length c0_0, .int .i64 a0_1, .slice A0_2 l0_2.length c0_2, .int .i64 a0_3, .int .i64 a0_4, .int .i64 a0_5, .bool a0_6] 74) (.cells #[.slice none 0 0, .int .i64 0, .slice none 0 0, .int .i64 0, .int .i64 0, .int .i64 0, .bool false] 74)
  have HS := Aside0.mk (dl.St.mk b0 b1 bb)
  have HX0 := Aside0.mk hx0
  have HX1 := Aside0.mk hx1
  have HK0 := Aside0.mk k0
  have HK1 := Aside0.mk k1
  have HJ0 := Aside0.mk j0
  have HJ1 := Aside0.mk j1
  have ix0 := dl.i0 (.slice A0_0 l0_0.length c0_0) (.int .i64 a0_1) (.slice A0_2 l0_2.length c0_2) (.int .i64 a0_3)
  have ix1 := dl.i1 (.slice A0_0 l0_0.length c0_0) (.int .i64 a0_1) (.slice A0_2 l0_2.length c0_2) (.int .i64 a0_3)
  unfold dl.n at hn0 hn1 hm0 hm1 hl0 hl1
  clear hr0_0 hc0_0 hr0_2 hc0_2 hi0 hsz hx0 hx1 k0 k1 j0 j1 b0 b1 bb bs
  rename_i hq1 hq2
  clear hq1 hq2
  rcases dl.mnc a1 (wrap64 ((l0_0.length : Int) - a0_1)) with ⟨d0, e0⟩ | ⟨d0, e0⟩
  all_goals
    rw [e0] at hcut0 hn0 hn1 hl0 ⊢
    clear e0
    rcases dl.mnc a1 (wrap64 ((l0_2.length : Int) - a0_3)) with ⟨d1, e1⟩ | ⟨d1, e1⟩
  all_goals
    rw [e1] at hcut1 hm0 hm1 hl1 ⊢
    clear e1
    have HL0 := Aside0.mk hl0
    have HL1 := Aside0.mk hl1
    clear hl0 hl1
    replace hn0 := eq_true hn0
    replace hn1 := eq_true hn1
    replace hm0 := eq_true hm0
    replace hm1 := eq_true hm1
    go_enter Try.func100, Try.ntmps100
    go_wp2
    generalize ((w.alloc (.cells #[.slice A0_0 l0_0.length c0_0, .int .i64 a0_1, .slice A0_2 l0_2.length c0_2, .int .i64 a0_3, .int .i64 a0_4, .int .i64 a0_5, .bool a0_6] 74)).alloc (.cells #[.slice none 0 0, .int .i64 0, .slice none 0 0, .int .i64 0, .int .i64 0, .int .i64 0, .bool false] 74)) = W2 at HS ⊢
    refine wp_loop_rounds 3 ?_
    rw [rounds_succ]
    go_wp2_with (go_at_call 90; refine Calls.mono (slices_Clone_byte_byte.calls A0_0 c0_0 y0 x0 _ (Kd.C_below HK0.out (HS.out.alloc _).b) HJ0.out HX0.out) ?_; rintro e w1 ⟨v0, rfl, ho, hb⟩; obtain ⟨Av, cv, rfl⟩ := Kd.R_slice ho; have hs1 := (HS.out.alloc _).below hb; have HS1 := Aside0.mk hs1; have HO := Aside0.mk (Kd.R_lower (Kd.R_mono (Kd.R_bound ho) (fun k_ hk => show w.heap.size + 1 < k_ from Nat.lt_of_lt_of_le (blk_lt (HS.out.alloc _).z) hk.2.1)) (HS.out.alloc _).b.size); have hc0 := (blk_cell hs1.d 0).trans rfl; have hc1 := (blk_cell hs1.d 1).trans rfl; have hf0 := blk_frozen hs1.d 0; have hf1 := blk_frozen hs1.d 1; have hz := blk_lt hs1.d; clear ho hb hs1)
    rw [rounds_succ]
    have HS3 := Aside0.mk (fun n : Int => (HS1.out.set 0 (.slice Av x0.length cv) rfl).set 1 (.int .i64 n) rfl)
    have HO3 := Aside0.mk (fun n : Int => dl.mv (i := 1) (x := .int .i64 n) (show w.heap.size ≤ w.heap.size + 1 by omega) (fun k_ hk => hk) (dl.mv (i := 0) (x := .slice Av x0.length cv) (show w.heap.size ≤ w.heap.size + 1 by omega) (fun k_ hk => hk) HO.out))
    go_wp2_with (go_at_call 90; refine Calls.mono (slices_Clone_byte_byte.calls A0_2 c0_2 y1 x1 _ (Kd.C_below HK1.out ((HS3.out _).alloc _).b) HJ1.out HX1.out) ?_; rintro e w2 ⟨v1, rfl, ho, hb⟩; obtain ⟨Bv, dv, rfl⟩ := Kd.R_slice ho; have hs4 := ((HS3.out _).alloc _).below hb; have HS4 := Aside0.mk hs4; have HOA := Aside0.mk (Kd.R_elder' (Kd.R_alloc (HO3.out _) _) (Kd.R_base ho) hb); have HOB := Aside0.mk (Kd.R_lower (Kd.R_mono (Kd.R_bound (Kd.R_new' ho (Kd.R_lt (Kd.R_alloc (HO3.out _) _)))) (fun k_ hk => (⟨Nat.lt_of_lt_of_le (blk_lt ((HS3.out _).alloc _).z) hk.2.1, hk.1.2⟩ : w.heap.size + 1 < k_ ∧ _))) ((HS3.out _).alloc _).b.size); have hd0 := (blk_cell hs4.d 0).trans rfl; have hd1 := (blk_cell hs4.d 1).trans rfl; have hd2 := (blk_cell hs4.d 2).trans rfl; have hd3 := (blk_cell hs4.d 3).trans rfl; have hd4 := (blk_cell hs4.d 4).trans rfl; have hd5 := (blk_cell hs4.d 5).trans rfl; have hd6 := (blk_cell hs4.d 6).trans rfl; have hz0 := (blk_cell hs4.z 0).trans rfl; have hz1 := (blk_cell hs4.z 1).trans rfl; have hz2 := (blk_cell hs4.z 2).trans rfl; have hz3 := (blk_cell hs4.z 3).trans rfl; have hz4 := (blk_cell hs4.z 4).trans rfl; have hz5 := (blk_cell hs4.z 5).trans rfl; have hz6 := (blk_cell hs4.z 6).trans rfl; have fd0 := blk_frozen hs4.d 0; have fd1 := blk_frozen hs4.d 1; have fd2 := blk_frozen hs4.d 2; have fd3 := blk_frozen hs4.d 3; have fd4 := blk_frozen hs4.d 4; have fd5 := blk_frozen hs4.d 5; have fd6 := blk_frozen hs4.d 6; have fz0 := blk_frozen hs4.z 0; have fz1 := blk_frozen hs4.z 1; have fz2 := blk_frozen hs4.z 2; have fz3 := blk_frozen hs4.z 3; have fz4 := blk_frozen hs4.z 4; have fz5 := blk_frozen hs4.z 5; have fz6 := blk_frozen hs4.z 6; have hz2 := blk_lt hs4.z; clear ho hb hs4)
    rw [rounds_succ]
    go_wp2
    refine bodyPost_ret (results_single rfl (.cell (w.heap.size + 1) 74 _ (0, 0) _ rfl (dl.set7 ((((HS4.out.set 2 _ rfl).set 3 _ rfl).set 6 _ rfl).set 4 _ rfl).z) Try.underlying74 rfl (by kernel_rfl) .nil)) rfl ?_
    have hB : w.heap.size ≤ w.heap.size + 1 := by omega
    refine ⟨_, _, rfl, ?_, ?_, dl.below7 _ _ _ _ _ _ _ ((((HS4.out.set 2 _ rfl).set 3 _ rfl).set 6 _ rfl).set 4 _ rfl).b⟩
    · exact Kd.R_mono (dl.far7 _ _ _ _ _ _ _ (dl.mv hB (fun k_ hk => hk.1) (dl.mv hB (fun k_ hk => hk.1) (dl.mv hB (fun k_ hk => hk.1) (dl.mv hB (fun k_ hk => hk.1) HOA.out)))) (fun k_ hk => by have h_ : w.heap.size + 1 < k_ := hk.1; omega)) (fun k_ hk => hk.2)
    · exact Kd.R_mono (dl.far7 _ _ _ _ _ _ _ (dl.mv hB (fun k_ hk => hk.1) (dl.mv hB (fun k_ hk => hk.1) (dl.mv hB (fun k_ hk => hk.1) (dl.mv hB (fun k_ hk => hk.1) HOB.out)))) (fun k_ hk => by have h_ : w.heap.size + 1 < k_ := hk.1; omega)) (fun k_ hk => hk.2)
theorem mv.ctwo {w : World} {b : Nat} {A B : Option Addr} {c d : Nat} {x y : List Int} {t : TypeId} (h : w.heap[b]? = some (.cells #[.slice A x.length c, .slice B y.length d] t (0, 0))) (hx : Kd.C (Kd.int .u8) w A x.length x) (hy : Kd.C (Kd.int .u8) w B y.length y) (hc : x.length ≤ c) (hd : y.length ≤ d) : Kd.C (Kd.slice 5 (Kd.int .u8)) w (some ⟨b, 0, none⟩) [x, y].length [x, y] := by
  refine ⟨rfl, by simp, fun _ => ⟨_, rfl, fun j p hj => ?_⟩⟩
  match j, hj with
  | 0, hj =>
    obtain rfl := Option.some.inj hj
    refine ⟨[.slice A x.length c], rfl, ⟨A, c, rfl, hc, hx⟩, fun i u hu => ?_⟩
    match i, hu with
    | 0, hu =>
      obtain rfl := Option.some.inj hu
      rw [add_plain, blk_cell h]; rfl
  | 1, hj =>
    obtain rfl := Option.some.inj hj
    refine ⟨[.slice B y.length d], rfl, ⟨B, d, rfl, hd, hy⟩, fun i u hu => ?_⟩
    match i, hu with
    | 0, hu =>
      obtain rfl := Option.some.inj hu
      rw [add_plain, blk_cell h]; rfl
theorem mv.two (w : World) (o1 o2 : Obj) : ((w.alloc o1).alloc o2).heap[w.heap.size]? = some o1 ∧ ((w.alloc o1).alloc o2).heap[w.heap.size + 1]? = some o2 ∧ Below w.heap.size w ((w.alloc o1).alloc o2) ∧ ((w.alloc o1).alloc o2).heap.size = w.heap.size + 1 + 1 := by
  have e1 : (w.alloc o1).heap.size = w.heap.size + 1 := by simp
  have e2 : ((w.alloc o1).alloc o2).heap.size = (w.alloc o1).heap.size + 1 := by simp
  refine ⟨blk_alloc (blk_new w o1) _, ?_, (((Below.refl _ _).alloc (Nat.le_refl _) o1).alloc (by omega) o2), by omega⟩
  have := blk_new (w.alloc o1) o2
  rwa [e1] at this
set_option maxHeartbeats 800000 in
set_option maxRecDepth 100000 in
/-- An area as it is. -/
theorem mv.same (A : Option Addr) (n c : Nat) (s : Int) (w : World) : Calls Try.prog 99 #[.agg #[.slice A n c, .int .i64 s]] w fun e w' => e = .returned (.agg #[.slice A n c, .int .i64 s]) ∧ Below w.heap.size w w' := by
  go_enter Try.func99, Try.ntmps99
  go_wp2
  refine bodyPost_ret (results_single rfl (.cell (w.heap.size + 1) 71 _ (0, 0) _ rfl (by have h_ := blk_new (w.alloc (.cells #[.slice A n c, .int .i64 s] 71)) (.cells #[.slice A n c, .int .i64 s] 71); simpa using h_) Try.underlying71 rfl (by kernel_rfl) .nil)) rfl ?_
  exact ⟨rfl, ((Below.refl _ _).alloc (Nat.le_refl _) _).alloc (by simp) _⟩
set_option maxHeartbeats 800000 in
set_option maxRecDepth 100000 in
/-- An area that is sure. -/
theorem mv.sure (A : Option Addr) (n c : Nat) (s : Int) (w : World) : Calls Try.prog 98 #[.agg #[.slice A n c, .int .i64 s]] w fun e w' => e = .returned (.agg #[.slice A n c, .int .i64 (n : Int)]) ∧ Below w.heap.size w w' := by
  go_enter Try.func98, Try.ntmps98
  go_wp2
  refine bodyPost_ret (results_single rfl (.cell (w.heap.size + 1) 71 _ (0, 0) _ rfl (by have h_ := blk_new (w.alloc (.cells #[.slice A n c, .int .i64 (n : Int)] 71)) (.cells #[.slice A n c, .int .i64 (n : Int)] 71); simpa using h_) Try.underlying71 rfl (by kernel_rfl) .nil)) rfl ?_
  exact ⟨rfl, ((Below.refl _ _).alloc (Nat.le_refl _) _).alloc (by simp) _⟩
set_option maxHeartbeats 800000 in
set_option maxRecDepth 100000 in
/-- No area. -/
theorem mv.wipe (A : Option Addr) (n c : Nat) (s : Int) (w : World) : Calls Try.prog 103 #[.agg #[.slice A n c, .int .i64 s]] w fun e w' => e = .returned (.agg #[.slice none 0 0, .int .i64 0]) ∧ Below w.heap.size w w' := by
  go_enter Try.func103, Try.ntmps103
  go_wp2
  refine bodyPost_ret (results_single rfl (.cell (w.heap.size + 1) 71 _ (0, 0) _ rfl (by have h_ := blk_new (w.alloc (.cells #[.slice A n c, .int .i64 s] 71)) (.cells #[.slice none 0 0, .int .i64 0] 71); simpa using h_) Try.underlying71 rfl (by kernel_rfl) .nil)) rfl ?_
  exact ⟨rfl, ((Below.refl _ _).alloc (Nat.le_refl _) _).alloc (by simp) _⟩
set_option maxHeartbeats 3200000 in
set_option maxRecDepth 100000 in
/-- An area, and some bytes more. -/
theorem mv.more (A : Option Addr) (c : Nat) (l : List Int) (s : Int) (g : Nat) (Bb : Option Addr) (cb : Nat) (b : List Int) (r : List Int) (w : World) (hl : Kd.C (Kd.int .u8) w A l.length l) (hlc : l.length ≤ c) (hb : Kd.C (Kd.int .u8) w Bb b.length b) (hbc : b.length ≤ cb)
    (hg : w.heap[g]? = some (.cells #[.slice Bb b.length cb] 22 (0, 0))) (h : slices_Concat_byte_byte.f [l, b] = some r) :
    Calls Try.prog 109 #[.agg #[.slice A l.length c, .int .i64 s], .pointer (some ⟨g, 0, none⟩)] w fun e w' => ∃ v0, e = .returned (.agg #[v0, .int .i64 s]) ∧ Kd.R (Kd.int .u8) 5 w' w.heap.size (fun _ => True) v0 r ∧ Below w.heap.size w w' := by
  have hg0 : w.cell? ⟨g, 0, none⟩ = some (.slice Bb b.length cb) := (blk_cell hg 0).trans rfl
  have hglt := blk_lt hg
  obtain ⟨b0, b1, bb, bs⟩ := mv.two w (.cells #[.slice A l.length c, .int .i64 s] 71) (.cells #[.slice none 0 0, .int .i64 0] 71)
  have hblk : (((w.alloc (.cells #[.slice A l.length c, .int .i64 s] 71)).alloc (.cells #[.slice none 0 0, .int .i64 0] 71)).alloc (.cells #[.slice A l.length c, .slice Bb b.length cb] 22)).heap[w.heap.size + 1 + 1]? = some (.cells #[.slice A l.length c, .slice Bb b.length cb] 22 (0, 0)) := by
    have h_ := blk_new ((w.alloc (.cells #[.slice A l.length c, .int .i64 s] 71)).alloc (.cells #[.slice none 0 0, .int .i64 0] 71)) (.cells #[.slice A l.length c, .slice Bb b.length cb] 22)
    rw [bs] at h_; exact h_
  have hb3 := bA bb (.cells #[.slice A l.length c, .slice Bb b.length cb] 22)
  have HK := Aside0.mk (slices_Concat_byte_byte.calls (some ⟨w.heap.size + 1 + 1, 0, none⟩) 2 [l, b] r _ (mv.ctwo hblk (Kd.C_below hl hb3) (Kd.C_below hb hb3) hlc hbc) (Nat.le_refl _) h)
  have HB0 := Aside0.mk (blk_alloc b0 (.cells #[.slice A l.length c, .slice Bb b.length cb] 22))
  have HB1 := Aside0.mk (blk_alloc b1 (.cells #[.slice A l.length c, .slice Bb b.length cb] 22))
  have HB3 := Aside0.mk hb3
  clear hg hl hlc hb hbc h b0 b1 bb bs hblk hb3
  go_enter Try.func109, Try.ntmps109
  go_wp2_with (go_at_call 106; refine Calls.mono HK.out ?_; rintro e w4 ⟨v0, rfl, ho, hb⟩; obtain ⟨Av, cv, rfl⟩ := Kd.R_slice ho; have h0 := blk_below HB0.out hb; have h1 := blk_below HB1.out hb; have H1 := Aside0.mk h1; have H0 := Aside0.mk h0; have HW := Aside0.mk (below_step HB3.out hb); have HO := Aside0.mk (Kd.R_lower (Kd.R_mono (Kd.R_bound ho) (fun k_ hk => show w.heap.size + 1 < k_ from Nat.lt_of_lt_of_le (blk_lt HB1.out) hk.2.1)) (below_size HB3.out)); have c0 := (blk_cell h0 0).trans rfl; have c1 := (blk_cell h0 1).trans rfl; have f0 := blk_frozen h0 0; have d0 := (blk_cell h1 0).trans rfl; have d1 := (blk_cell h1 1).trans rfl; have g0 := blk_frozen h1 0; have g1 := blk_frozen h1 1; have hz := blk_lt h0; have hz1 := blk_lt h1; clear ho hb h0 h1 HK)
  have hB : w.heap.size + 1 ≠ w.heap.size := by omega
  have hle : w.heap.size ≤ w.heap.size + 1 := by omega
  refine bodyPost_ret (results_single rfl (.cell (w.heap.size + 1) 71 _ (0, 0) _ rfl (blk_put (cs := #[_, _]) (blk_put (cs := #[_, _]) (blk_far H1.out hB _) 0 _ rfl) 1 _ rfl) Try.underlying71 rfl (by kernel_rfl) .nil)) rfl ?_
  refine ⟨_, rfl, ?_, below_set (below_set (below_set HW.out (Nat.le_refl _)) hle) hle⟩
  have hk : ∀ g, g ≤ w.heap.size + 1 → ∀ k_, w.heap.size + 1 < k_ → k_ ≠ g := fun g hg k_ hk => by omega
  exact Kd.R_mono (Kd.R_far (p := ⟨w.heap.size + 1, 1, none⟩) (Kd.R_far (p := ⟨w.heap.size + 1, 0, none⟩) (Kd.R_far (p := ⟨w.heap.size, 0, none⟩) HO.out (hk _ hle) _) (hk _ (Nat.le_refl _)) _) (hk _ (Nat.le_refl _)) _) (fun _ _ => trivial)
theorem sp.two (w : World) (o1 o2 : Obj) : ((w.alloc o1).alloc o2).heap[w.heap.size]? = some o1 ∧ ((w.alloc o1).alloc o2).heap[w.heap.size + 1]? = some o2 ∧ Below w.heap.size w ((w.alloc o1).alloc o2) ∧ ((w.alloc o1).alloc o2).heap.size = w.heap.size + 1 + 1 := by
  have e1 : (w.alloc o1).heap.size = w.heap.size + 1 := by simp
  have e2 : ((w.alloc o1).alloc o2).heap.size = (w.alloc o1).heap.size + 1 := by simp
  refine ⟨blk_alloc (blk_new w o1) _, ?_, (((Below.refl _ _).alloc (Nat.le_refl _) o1).alloc (by omega) o2), by omega⟩
  have := blk_new (w.alloc o1) o2
  rwa [e1] at this
/-- The disk's block, the moves', the result's. -/
structure sp.St (w W : World) (x0 x1 x2 x3 x4 x5 x6 F1 F2 : Value) : Prop where
  d : W.heap[w.heap.size]? = some (.cells #[x0, x1, x2, x3, x4, x5, x6] 74)
  m : W.heap[w.heap.size + 1]? = some (.cells #[F1, F2] 130)
  z : W.heap[w.heap.size + 2]? = some (.cells #[.slice none 0 0, .int .i64 0, .slice none 0 0, .int .i64 0, .int .i64 0, .int .i64 0, .bool false] 74)
  b : Below w.heap.size w W
section
variable {w W W' : World} {x0 x1 x2 x3 x4 x5 x6 F1 F2 : Value}
theorem sp.St.start (w : World) (x0 x1 x2 x3 x4 x5 x6 F1 F2 : Value) : sp.St w (((w.alloc (.cells #[x0, x1, x2, x3, x4, x5, x6] 74)).alloc (.cells #[F1, F2] 130)).alloc (.cells #[.slice none 0 0, .int .i64 0, .slice none 0 0, .int .i64 0, .int .i64 0, .int .i64 0, .bool false] 74)) x0 x1 x2 x3 x4 x5 x6 F1 F2 := by
  obtain ⟨b0, b1, bb, bs⟩ := sp.two w (.cells #[x0, x1, x2, x3, x4, x5, x6] 74) (.cells #[F1, F2] 130)
  refine ⟨blk_alloc b0 _, blk_alloc b1 _, ?_, below_alloc bb _⟩
  have h_ := blk_new ((w.alloc (.cells #[x0, x1, x2, x3, x4, x5, x6] 74)).alloc (.cells #[F1, F2] 130)) (.cells #[.slice none 0 0, .int .i64 0, .slice none 0 0, .int .i64 0, .int .i64 0, .int .i64 0, .bool false] 74)
  rw [bs] at h_; exact h_
theorem sp.St.below (h : sp.St w W x0 x1 x2 x3 x4 x5 x6 F1 F2) (hb : Below W.heap.size W W') : sp.St w W' x0 x1 x2 x3 x4 x5 x6 F1 F2 := ⟨blk_below h.d hb, blk_below h.m hb, blk_below h.z hb, below_step h.b hb⟩
theorem sp.St.set (h : sp.St w W x0 x1 x2 x3 x4 x5 x6 F1 F2) (i : Nat) (v : Value) {y0 y1 y2 y3 y4 y5 y6 : Value} (e : (#[x0, x1, x2, x3, x4, x5, x6] : Array Value).setIfInBounds i v = #[y0, y1, y2, y3, y4, y5, y6]) : sp.St w (W.setCell ⟨w.heap.size, i, none⟩ v) y0 y1 y2 y3 y4 y5 y6 F1 F2 :=
  ⟨blk_put h.d i v e, blk_far h.m (show w.heap.size + 1 ≠ w.heap.size by omega) v, blk_far h.z (show w.heap.size + 2 ≠ w.heap.size by omega) v, below_set h.b (Nat.le_refl _)⟩
theorem sp.St.drew (h : sp.St w W x0 x1 x2 x3 x4 x5 x6 F1 F2) : sp.St w W.drew x0 x1 x2 x3 x4 x5 x6 F1 F2 := ⟨blk_drew h.d, blk_drew h.m, blk_drew h.z, below_drew1 h.b⟩
theorem sp.set7 {t : TypeId} {g : Nat} {y0 y1 y2 y3 y4 y5 y6 : Value} {a b c d e f k : Value} (h : W.heap[g]? = some (.cells #[y0, y1, y2, y3, y4, y5, y6] t (0, 0))) :
    (((((((W.setCell ⟨g, 0, none⟩ a).setCell ⟨g, 1, none⟩ b).setCell ⟨g, 2, none⟩ c).setCell ⟨g, 3, none⟩ d).setCell ⟨g, 4, none⟩ e).setCell ⟨g, 5, none⟩ f).setCell ⟨g, 6, none⟩ k).heap[g]? = some (.cells #[a, b, c, d, e, f, k] t (0, 0)) :=
  blk_put (cs := #[a, b, c, d, e, f, y6]) (blk_put (cs := #[a, b, c, d, e, y5, y6]) (blk_put (cs := #[a, b, c, d, y4, y5, y6]) (blk_put (cs := #[a, b, c, y3, y4, y5, y6]) (blk_put (cs := #[a, b, y2, y3, y4, y5, y6]) (blk_put (cs := #[a, y1, y2, y3, y4, y5, y6]) (blk_put h 0 a rfl) 1 b rfl) 2 c rfl) 3 d rfl) 4 e rfl) 5 f rfl) 6 k rfl
theorem sp.far7 {v : Value} {xs : List Int} {ok : Nat → Prop} {base g : Nat} (a b c d e f k : Value) (h : Kd.R (Kd.int .u8) 5 W base ok v xs) (hk : ∀ k_, ok k_ → k_ ≠ g) :
    Kd.R (Kd.int .u8) 5 (((((((W.setCell ⟨g, 0, none⟩ a).setCell ⟨g, 1, none⟩ b).setCell ⟨g, 2, none⟩ c).setCell ⟨g, 3, none⟩ d).setCell ⟨g, 4, none⟩ e).setCell ⟨g, 5, none⟩ f).setCell ⟨g, 6, none⟩ k) base ok v xs :=
  Kd.R_far (p := ⟨g, 6, none⟩) (Kd.R_far (p := ⟨g, 5, none⟩) (Kd.R_far (p := ⟨g, 4, none⟩) (Kd.R_far (p := ⟨g, 3, none⟩) (Kd.R_far (p := ⟨g, 2, none⟩) (Kd.R_far (p := ⟨g, 1, none⟩) (Kd.R_far (p := ⟨g, 0, none⟩) h hk a) hk b) hk c) hk d) hk e) hk f) hk k
theorem sp.below7 (a b c d e f k : Value) (h : Below w.heap.size w W) :
    Below w.heap.size w (((((((W.setCell ⟨w.heap.size + 2, 0, none⟩ a).setCell ⟨w.heap.size + 2, 1, none⟩ b).setCell ⟨w.heap.size + 2, 2, none⟩ c).setCell ⟨w.heap.size + 2, 3, none⟩ d).setCell ⟨w.heap.size + 2, 4, none⟩ e).setCell ⟨w.heap.size + 2, 5, none⟩ f).setCell ⟨w.heap.size + 2, 6, none⟩ k) := by
  have hg : w.heap.size ≤ w.heap.size + 2 := by omega
  exact below_set (below_set (below_set (below_set (below_set (below_set (below_set h hg) hg) hg) hg) hg) hg) hg
end
set_option maxHeartbeats 3200000 in
set_option maxRecDepth 100000 in
theorem sp.wrong (A0 : Option Addr) (c0 n0 : Nat) (s0 : Int) (A1 : Option Addr) (c1 n1 : Nat) (s1 fuse keep : Int) (k : Int) (down : Bool) (full : Bool) (F1 F2 : Value) (o1 : F1.oneCell' = true) (o2 : F2.oneCell' = true) (w : World) (HR : ∀ W, Calls Try.prog 59 #[.agg #[.slice A0 n0 c0, .int .i64 s0, .slice A1 n1 c1, .int .i64 s1, .int .i64 fuse, .int .i64 keep, .bool down]] W fun e w' => e = .returned (.bool false) ∧ Below W.heap.size W w')  :
    Calls Try.prog 96 #[.agg #[.slice A0 n0 c0, .int .i64 s0, .slice A1 n1 c1, .int .i64 s1, .int .i64 fuse, .int .i64 keep, .bool down], .int .i64 k, .bool full, .agg #[F1, F2]] w fun e w' => e = .returned (.tuple #[.agg #[.slice A0 n0 c0, .int .i64 s0, .slice A1 n1 c1, .int .i64 s1, .int .i64 fuse, .int .i64 keep, .bool down], .int .i64 1]) ∧ Below w.heap.size w w' := by
  have HS := Aside0.mk (sp.St.start w (.slice A0 n0 c0) (.int .i64 s0) (.slice A1 n1 c1) (.int .i64 s1) (.int .i64 fuse) (.int .i64 keep) (.bool down) F1 F2)
  have HRR := Aside0.mk HR

  clear HR
  go_enter Try.func96, Try.ntmps96
  go_upto_region 1 with fail
  generalize ((w.alloc (.cells #[.slice A0 n0 c0, .int .i64 s0, .slice A1 n1 c1, .int .i64 s1, .int .i64 fuse, .int .i64 keep, .bool down] 74)).alloc (.cells #[F1, F2] 130)).alloc (.cells #[.slice none 0 0, .int .i64 0, .slice none 0 0, .int .i64 0, .int .i64 0, .int .i64 0, .bool false] 74) = W2 at HS ⊢
  have cd0 := (blk_cell HS.out.d 0).trans rfl; have cd1 := (blk_cell HS.out.d 1).trans rfl; have cd2 := (blk_cell HS.out.d 2).trans rfl; have cd3 := (blk_cell HS.out.d 3).trans rfl; have cd4 := (blk_cell HS.out.d 4).trans rfl; have cd5 := (blk_cell HS.out.d 5).trans rfl; have cd6 := (blk_cell HS.out.d 6).trans rfl
  go_wp2_with (go_at_call 59; refine Calls.mono (HRR.out _) ?_; rintro e w1 ⟨rfl, hb⟩; have hs := HS.out.below hb; have HS1 := Aside0.mk hs; have a0 := (blk_cell hs.d 0).trans rfl; have fa0 := blk_frozen hs.d 0; have a1 := (blk_cell hs.d 1).trans rfl; have fa1 := blk_frozen hs.d 1; have a2 := (blk_cell hs.d 2).trans rfl; have fa2 := blk_frozen hs.d 2; have a3 := (blk_cell hs.d 3).trans rfl; have fa3 := blk_frozen hs.d 3; have a4 := (blk_cell hs.d 4).trans rfl; have fa4 := blk_frozen hs.d 4; have a5 := (blk_cell hs.d 5).trans rfl; have fa5 := blk_frozen hs.d 5; have a6 := (blk_cell hs.d 6).trans rfl; have fa6 := blk_frozen hs.d 6; have m0 := (blk_cell hs.m 0).trans rfl; have fm0 := blk_frozen hs.m 0; have m1 := (blk_cell hs.m 1).trans rfl; have fm1 := blk_frozen hs.m 1; have z0 := (blk_cell hs.z 0).trans rfl; have fz0 := blk_frozen hs.z 0; have z1 := (blk_cell hs.z 1).trans rfl; have fz1 := blk_frozen hs.z 1; have z2 := (blk_cell hs.z 2).trans rfl; have fz2 := blk_frozen hs.z 2; have z3 := (blk_cell hs.z 3).trans rfl; have fz3 := blk_frozen hs.z 3; have z4 := (blk_cell hs.z 4).trans rfl; have fz4 := blk_frozen hs.z 4; have z5 := (blk_cell hs.z 5).trans rfl; have fz5 := blk_frozen hs.z 5; have z6 := (blk_cell hs.z 6).trans rfl; have fz6 := blk_frozen hs.z 6; have hz := blk_lt hs.z; clear hb hs)
  refine bodyPost_ret (results_ct rfl _ _ (w.heap.size + 2) 74 _ (0, 0) _ rfl (sp.set7 (HS1.out).z) Try.underlying74 rfl (by kernel_rfl)) rfl ?_
  exact ⟨rfl, sp.below7 _ _ _ _ _ _ _ HS1.out.b⟩
set_option maxHeartbeats 3200000 in
set_option maxRecDepth 100000 in
theorem sp.below (A0 : Option Addr) (c0 n0 : Nat) (s0 : Int) (A1 : Option Addr) (c1 n1 : Nat) (s1 fuse keep : Int) (k : Int) (down : Bool) (full : Bool) (F1 F2 : Value) (o1 : F1.oneCell' = true) (o2 : F2.oneCell' = true) (w : World) (HR : ∀ W, Calls Try.prog 59 #[.agg #[.slice A0 n0 c0, .int .i64 s0, .slice A1 n1 c1, .int .i64 s1, .int .i64 fuse, .int .i64 keep, .bool down]] W fun e w' => e = .returned (.bool true) ∧ Below W.heap.size W w') (hk : k < 0) :
    Calls Try.prog 96 #[.agg #[.slice A0 n0 c0, .int .i64 s0, .slice A1 n1 c1, .int .i64 s1, .int .i64 fuse, .int .i64 keep, .bool down], .int .i64 k, .bool full, .agg #[F1, F2]] w fun e w' => e = .returned (.tuple #[.agg #[.slice A0 n0 c0, .int .i64 s0, .slice A1 n1 c1, .int .i64 s1, .int .i64 fuse, .int .i64 keep, .bool down], .int .i64 1]) ∧ Below w.heap.size w w' := by
  have HS := Aside0.mk (sp.St.start w (.slice A0 n0 c0) (.int .i64 s0) (.slice A1 n1 c1) (.int .i64 s1) (.int .i64 fuse) (.int .i64 keep) (.bool down) F1 F2)
  have HRR := Aside0.mk HR
  have b0 : decide (k < 0) = true := decide_eq_true hk
  clear hk
  clear HR
  go_enter Try.func96, Try.ntmps96
  go_upto_region 1 with fail
  generalize ((w.alloc (.cells #[.slice A0 n0 c0, .int .i64 s0, .slice A1 n1 c1, .int .i64 s1, .int .i64 fuse, .int .i64 keep, .bool down] 74)).alloc (.cells #[F1, F2] 130)).alloc (.cells #[.slice none 0 0, .int .i64 0, .slice none 0 0, .int .i64 0, .int .i64 0, .int .i64 0, .bool false] 74) = W2 at HS ⊢
  have cd0 := (blk_cell HS.out.d 0).trans rfl; have cd1 := (blk_cell HS.out.d 1).trans rfl; have cd2 := (blk_cell HS.out.d 2).trans rfl; have cd3 := (blk_cell HS.out.d 3).trans rfl; have cd4 := (blk_cell HS.out.d 4).trans rfl; have cd5 := (blk_cell HS.out.d 5).trans rfl; have cd6 := (blk_cell HS.out.d 6).trans rfl
  go_wp2_with (go_at_call 59; refine Calls.mono (HRR.out _) ?_; rintro e w1 ⟨rfl, hb⟩; have hs := HS.out.below hb; have HS1 := Aside0.mk hs; have a0 := (blk_cell hs.d 0).trans rfl; have fa0 := blk_frozen hs.d 0; have a1 := (blk_cell hs.d 1).trans rfl; have fa1 := blk_frozen hs.d 1; have a2 := (blk_cell hs.d 2).trans rfl; have fa2 := blk_frozen hs.d 2; have a3 := (blk_cell hs.d 3).trans rfl; have fa3 := blk_frozen hs.d 3; have a4 := (blk_cell hs.d 4).trans rfl; have fa4 := blk_frozen hs.d 4; have a5 := (blk_cell hs.d 5).trans rfl; have fa5 := blk_frozen hs.d 5; have a6 := (blk_cell hs.d 6).trans rfl; have fa6 := blk_frozen hs.d 6; have m0 := (blk_cell hs.m 0).trans rfl; have fm0 := blk_frozen hs.m 0; have m1 := (blk_cell hs.m 1).trans rfl; have fm1 := blk_frozen hs.m 1; have z0 := (blk_cell hs.z 0).trans rfl; have fz0 := blk_frozen hs.z 0; have z1 := (blk_cell hs.z 1).trans rfl; have fz1 := blk_frozen hs.z 1; have z2 := (blk_cell hs.z 2).trans rfl; have fz2 := blk_frozen hs.z 2; have z3 := (blk_cell hs.z 3).trans rfl; have fz3 := blk_frozen hs.z 3; have z4 := (blk_cell hs.z 4).trans rfl; have fz4 := blk_frozen hs.z 4; have z5 := (blk_cell hs.z 5).trans rfl; have fz5 := blk_frozen hs.z 5; have z6 := (blk_cell hs.z 6).trans rfl; have fz6 := blk_frozen hs.z 6; have hz := blk_lt hs.z; clear hb hs)
  refine bodyPost_ret (results_ct rfl _ _ (w.heap.size + 2) 74 _ (0, 0) _ rfl (sp.set7 (HS1.out).z) Try.underlying74 rfl (by kernel_rfl)) rfl ?_
  exact ⟨rfl, sp.below7 _ _ _ _ _ _ _ HS1.out.b⟩
set_option maxHeartbeats 3200000 in
set_option maxRecDepth 100000 in
theorem sp.above (A0 : Option Addr) (c0 n0 : Nat) (s0 : Int) (A1 : Option Addr) (c1 n1 : Nat) (s1 fuse keep : Int) (k : Int) (down : Bool) (full : Bool) (F1 F2 : Value) (o1 : F1.oneCell' = true) (o2 : F2.oneCell' = true) (w : World) (HR : ∀ W, Calls Try.prog 59 #[.agg #[.slice A0 n0 c0, .int .i64 s0, .slice A1 n1 c1, .int .i64 s1, .int .i64 fuse, .int .i64 keep, .bool down]] W fun e w' => e = .returned (.bool true) ∧ Below W.heap.size W w') (hk : 2 ≤ k) :
    Calls Try.prog 96 #[.agg #[.slice A0 n0 c0, .int .i64 s0, .slice A1 n1 c1, .int .i64 s1, .int .i64 fuse, .int .i64 keep, .bool down], .int .i64 k, .bool full, .agg #[F1, F2]] w fun e w' => e = .returned (.tuple #[.agg #[.slice A0 n0 c0, .int .i64 s0, .slice A1 n1 c1, .int .i64 s1, .int .i64 fuse, .int .i64 keep, .bool down], .int .i64 1]) ∧ Below w.heap.size w w' := by
  have HS := Aside0.mk (sp.St.start w (.slice A0 n0 c0) (.int .i64 s0) (.slice A1 n1 c1) (.int .i64 s1) (.int .i64 fuse) (.int .i64 keep) (.bool down) F1 F2)
  have HRR := Aside0.mk HR
  have b0 : decide (k < 0) = false := decide_eq_false (by omega)
  have b1 : decide (2 ≤ k) = true := decide_eq_true hk
  clear hk
  clear HR
  go_enter Try.func96, Try.ntmps96
  go_upto_region 1 with fail
  generalize ((w.alloc (.cells #[.slice A0 n0 c0, .int .i64 s0, .slice A1 n1 c1, .int .i64 s1, .int .i64 fuse, .int .i64 keep, .bool down] 74)).alloc (.cells #[F1, F2] 130)).alloc (.cells #[.slice none 0 0, .int .i64 0, .slice none 0 0, .int .i64 0, .int .i64 0, .int .i64 0, .bool false] 74) = W2 at HS ⊢
  have cd0 := (blk_cell HS.out.d 0).trans rfl; have cd1 := (blk_cell HS.out.d 1).trans rfl; have cd2 := (blk_cell HS.out.d 2).trans rfl; have cd3 := (blk_cell HS.out.d 3).trans rfl; have cd4 := (blk_cell HS.out.d 4).trans rfl; have cd5 := (blk_cell HS.out.d 5).trans rfl; have cd6 := (blk_cell HS.out.d 6).trans rfl
  go_wp2_with (go_at_call 59; refine Calls.mono (HRR.out _) ?_; rintro e w1 ⟨rfl, hb⟩; have hs := HS.out.below hb; have HS1 := Aside0.mk hs; have a0 := (blk_cell hs.d 0).trans rfl; have fa0 := blk_frozen hs.d 0; have a1 := (blk_cell hs.d 1).trans rfl; have fa1 := blk_frozen hs.d 1; have a2 := (blk_cell hs.d 2).trans rfl; have fa2 := blk_frozen hs.d 2; have a3 := (blk_cell hs.d 3).trans rfl; have fa3 := blk_frozen hs.d 3; have a4 := (blk_cell hs.d 4).trans rfl; have fa4 := blk_frozen hs.d 4; have a5 := (blk_cell hs.d 5).trans rfl; have fa5 := blk_frozen hs.d 5; have a6 := (blk_cell hs.d 6).trans rfl; have fa6 := blk_frozen hs.d 6; have m0 := (blk_cell hs.m 0).trans rfl; have fm0 := blk_frozen hs.m 0; have m1 := (blk_cell hs.m 1).trans rfl; have fm1 := blk_frozen hs.m 1; have z0 := (blk_cell hs.z 0).trans rfl; have fz0 := blk_frozen hs.z 0; have z1 := (blk_cell hs.z 1).trans rfl; have fz1 := blk_frozen hs.z 1; have z2 := (blk_cell hs.z 2).trans rfl; have fz2 := blk_frozen hs.z 2; have z3 := (blk_cell hs.z 3).trans rfl; have fz3 := blk_frozen hs.z 3; have z4 := (blk_cell hs.z 4).trans rfl; have fz4 := blk_frozen hs.z 4; have z5 := (blk_cell hs.z 5).trans rfl; have fz5 := blk_frozen hs.z 5; have z6 := (blk_cell hs.z 6).trans rfl; have fz6 := blk_frozen hs.z 6; have hz := blk_lt hs.z; clear hb hs)
  refine bodyPost_ret (results_ct rfl _ _ (w.heap.size + 2) 74 _ (0, 0) _ rfl (sp.set7 (HS1.out).z) Try.underlying74 rfl (by kernel_rfl)) rfl ?_
  exact ⟨rfl, sp.below7 _ _ _ _ _ _ _ HS1.out.b⟩
set_option maxHeartbeats 3200000 in
set_option maxRecDepth 100000 in
theorem sp.downed (A0 : Option Addr) (c0 n0 : Nat) (s0 : Int) (A1 : Option Addr) (c1 n1 : Nat) (s1 fuse keep : Int) (k : Int) (full : Bool) (F1 F2 : Value) (o1 : F1.oneCell' = true) (o2 : F2.oneCell' = true) (w : World) (HR : ∀ W, Calls Try.prog 59 #[.agg #[.slice A0 n0 c0, .int .i64 s0, .slice A1 n1 c1, .int .i64 s1, .int .i64 fuse, .int .i64 keep, .bool true]] W fun e w' => e = .returned (.bool true) ∧ Below W.heap.size W w') (hk : 0 ≤ k) (hk2 : k < 2) :
    Calls Try.prog 96 #[.agg #[.slice A0 n0 c0, .int .i64 s0, .slice A1 n1 c1, .int .i64 s1, .int .i64 fuse, .int .i64 keep, .bool true], .int .i64 k, .bool full, .agg #[F1, F2]] w fun e w' => e = .returned (.tuple #[.agg #[.slice A0 n0 c0, .int .i64 s0, .slice A1 n1 c1, .int .i64 s1, .int .i64 fuse, .int .i64 keep, .bool true], .int .i64 14]) ∧ Below w.heap.size w w' := by
  have HS := Aside0.mk (sp.St.start w (.slice A0 n0 c0) (.int .i64 s0) (.slice A1 n1 c1) (.int .i64 s1) (.int .i64 fuse) (.int .i64 keep) (.bool true) F1 F2)
  have HRR := Aside0.mk HR
  have b0 : decide (k < 0) = false := decide_eq_false (by omega)
  have b1 : decide (2 ≤ k) = false := decide_eq_false (by omega)
  clear hk hk2
  clear HR
  go_enter Try.func96, Try.ntmps96
  go_upto_region 1 with fail
  generalize ((w.alloc (.cells #[.slice A0 n0 c0, .int .i64 s0, .slice A1 n1 c1, .int .i64 s1, .int .i64 fuse, .int .i64 keep, .bool true] 74)).alloc (.cells #[F1, F2] 130)).alloc (.cells #[.slice none 0 0, .int .i64 0, .slice none 0 0, .int .i64 0, .int .i64 0, .int .i64 0, .bool false] 74) = W2 at HS ⊢
  have cd0 := (blk_cell HS.out.d 0).trans rfl; have cd1 := (blk_cell HS.out.d 1).trans rfl; have cd2 := (blk_cell HS.out.d 2).trans rfl; have cd3 := (blk_cell HS.out.d 3).trans rfl; have cd4 := (blk_cell HS.out.d 4).trans rfl; have cd5 := (blk_cell HS.out.d 5).trans rfl; have cd6 := (blk_cell HS.out.d 6).trans rfl
  go_wp2_with (go_at_call 59; refine Calls.mono (HRR.out _) ?_; rintro e w1 ⟨rfl, hb⟩; have hs := HS.out.below hb; have HS1 := Aside0.mk hs; have a0 := (blk_cell hs.d 0).trans rfl; have fa0 := blk_frozen hs.d 0; have a1 := (blk_cell hs.d 1).trans rfl; have fa1 := blk_frozen hs.d 1; have a2 := (blk_cell hs.d 2).trans rfl; have fa2 := blk_frozen hs.d 2; have a3 := (blk_cell hs.d 3).trans rfl; have fa3 := blk_frozen hs.d 3; have a4 := (blk_cell hs.d 4).trans rfl; have fa4 := blk_frozen hs.d 4; have a5 := (blk_cell hs.d 5).trans rfl; have fa5 := blk_frozen hs.d 5; have a6 := (blk_cell hs.d 6).trans rfl; have fa6 := blk_frozen hs.d 6; have m0 := (blk_cell hs.m 0).trans rfl; have fm0 := blk_frozen hs.m 0; have m1 := (blk_cell hs.m 1).trans rfl; have fm1 := blk_frozen hs.m 1; have z0 := (blk_cell hs.z 0).trans rfl; have fz0 := blk_frozen hs.z 0; have z1 := (blk_cell hs.z 1).trans rfl; have fz1 := blk_frozen hs.z 1; have z2 := (blk_cell hs.z 2).trans rfl; have fz2 := blk_frozen hs.z 2; have z3 := (blk_cell hs.z 3).trans rfl; have fz3 := blk_frozen hs.z 3; have z4 := (blk_cell hs.z 4).trans rfl; have fz4 := blk_frozen hs.z 4; have z5 := (blk_cell hs.z 5).trans rfl; have fz5 := blk_frozen hs.z 5; have z6 := (blk_cell hs.z 6).trans rfl; have fz6 := blk_frozen hs.z 6; have hz := blk_lt hs.z; clear hb hs)
  refine bodyPost_ret (results_ct rfl _ _ (w.heap.size + 2) 74 _ (0, 0) _ rfl (sp.set7 (HS1.out).z) Try.underlying74 rfl (by kernel_rfl)) rfl ?_
  exact ⟨rfl, sp.below7 _ _ _ _ _ _ _ HS1.out.b⟩
set_option maxHeartbeats 3200000 in
set_option maxRecDepth 100000 in
theorem sp.full (A0 : Option Addr) (c0 n0 : Nat) (s0 : Int) (A1 : Option Addr) (c1 n1 : Nat) (s1 fuse keep : Int) (k : Int) (full : Bool) (F1 F2 : Value) (o1 : F1.oneCell' = true) (o2 : F2.oneCell' = true) (w : World) (HR : ∀ W, Calls Try.prog 59 #[.agg #[.slice A0 n0 c0, .int .i64 s0, .slice A1 n1 c1, .int .i64 s1, .int .i64 fuse, .int .i64 keep, .bool false]] W fun e w' => e = .returned (.bool true) ∧ Below W.heap.size W w') (hk : 0 ≤ k) (hk2 : k < 2) :
    Calls Try.prog 96 #[.agg #[.slice A0 n0 c0, .int .i64 s0, .slice A1 n1 c1, .int .i64 s1, .int .i64 fuse, .int .i64 keep, .bool false], .int .i64 k, .bool true, .agg #[F1, F2]] w fun e w' => e = .returned (.tuple #[.agg #[.slice A0 n0 c0, .int .i64 s0, .slice A1 n1 c1, .int .i64 s1, .int .i64 fuse, .int .i64 keep, .bool false], .int .i64 12]) ∧ Below w.heap.size w w' := by
  have HS := Aside0.mk (sp.St.start w (.slice A0 n0 c0) (.int .i64 s0) (.slice A1 n1 c1) (.int .i64 s1) (.int .i64 fuse) (.int .i64 keep) (.bool false) F1 F2)
  have HRR := Aside0.mk HR
  have b0 : decide (k < 0) = false := decide_eq_false (by omega)
  have b1 : decide (2 ≤ k) = false := decide_eq_false (by omega)
  clear hk hk2
  clear HR
  go_enter Try.func96, Try.ntmps96
  go_upto_region 1 with fail
  generalize ((w.alloc (.cells #[.slice A0 n0 c0, .int .i64 s0, .slice A1 n1 c1, .int .i64 s1, .int .i64 fuse, .int .i64 keep, .bool false] 74)).alloc (.cells #[F1, F2] 130)).alloc (.cells #[.slice none 0 0, .int .i64 0, .slice none 0 0, .int .i64 0, .int .i64 0, .int .i64 0, .bool false] 74) = W2 at HS ⊢
  have cd0 := (blk_cell HS.out.d 0).trans rfl; have cd1 := (blk_cell HS.out.d 1).trans rfl; have cd2 := (blk_cell HS.out.d 2).trans rfl; have cd3 := (blk_cell HS.out.d 3).trans rfl; have cd4 := (blk_cell HS.out.d 4).trans rfl; have cd5 := (blk_cell HS.out.d 5).trans rfl; have cd6 := (blk_cell HS.out.d 6).trans rfl
  go_wp2_with (go_at_call 59; refine Calls.mono (HRR.out _) ?_; rintro e w1 ⟨rfl, hb⟩; have hs := HS.out.below hb; have HS1 := Aside0.mk hs; have a0 := (blk_cell hs.d 0).trans rfl; have fa0 := blk_frozen hs.d 0; have a1 := (blk_cell hs.d 1).trans rfl; have fa1 := blk_frozen hs.d 1; have a2 := (blk_cell hs.d 2).trans rfl; have fa2 := blk_frozen hs.d 2; have a3 := (blk_cell hs.d 3).trans rfl; have fa3 := blk_frozen hs.d 3; have a4 := (blk_cell hs.d 4).trans rfl; have fa4 := blk_frozen hs.d 4; have a5 := (blk_cell hs.d 5).trans rfl; have fa5 := blk_frozen hs.d 5; have a6 := (blk_cell hs.d 6).trans rfl; have fa6 := blk_frozen hs.d 6; have m0 := (blk_cell hs.m 0).trans rfl; have fm0 := blk_frozen hs.m 0; have m1 := (blk_cell hs.m 1).trans rfl; have fm1 := blk_frozen hs.m 1; have z0 := (blk_cell hs.z 0).trans rfl; have fz0 := blk_frozen hs.z 0; have z1 := (blk_cell hs.z 1).trans rfl; have fz1 := blk_frozen hs.z 1; have z2 := (blk_cell hs.z 2).trans rfl; have fz2 := blk_frozen hs.z 2; have z3 := (blk_cell hs.z 3).trans rfl; have fz3 := blk_frozen hs.z 3; have z4 := (blk_cell hs.z 4).trans rfl; have fz4 := blk_frozen hs.z 4; have z5 := (blk_cell hs.z 5).trans rfl; have fz5 := blk_frozen hs.z 5; have z6 := (blk_cell hs.z 6).trans rfl; have fz6 := blk_frozen hs.z 6; have hz := blk_lt hs.z; clear hb hs)
  refine bodyPost_ret (results_ct rfl _ _ (w.heap.size + 2) 74 _ (0, 0) _ rfl (sp.set7 (HS1.out).z) Try.underlying74 rfl (by kernel_rfl)) rfl ?_
  exact ⟨rfl, sp.below7 _ _ _ _ _ _ _ HS1.out.b⟩
set_option maxHeartbeats 3200000 in
set_option maxRecDepth 100000 in
theorem sp.free98_0 (A0 : Option Addr) (c0 n0 : Nat) (s0 : Int) (A1 : Option Addr) (c1 n1 : Nat) (s1 fuse keep : Int) (vA : Option Addr) (vn vc : Nat) (s' : Int) (w : World) (HR : ∀ W, Calls Try.prog 59 #[.agg #[.slice A0 n0 c0, .int .i64 s0, .slice A1 n1 c1, .int .i64 s1, .int .i64 fuse, .int .i64 keep, .bool false]] W fun e w' => e = .returned (.bool true) ∧ Below W.heap.size W w') (HM : ∀ W, Calls Try.prog 98 #[.agg #[.slice A0 n0 c0, .int .i64 s0]] W fun e w' => e = .returned (.agg #[.slice vA vn vc, .int .i64 s']) ∧ Below W.heap.size W w') (hf : fuse < 0) :
    Calls Try.prog 96 #[.agg #[.slice A0 n0 c0, .int .i64 s0, .slice A1 n1 c1, .int .i64 s1, .int .i64 fuse, .int .i64 keep, .bool false], .int .i64 0, .bool false, .agg #[.func (.func 98) #[] #[], .func (.func 99) #[] #[]]] w fun e w' => e = .returned (.tuple #[.agg #[.slice vA vn vc, .int .i64 s', .slice A1 n1 c1, .int .i64 s1, .int .i64 fuse, .int .i64 keep, .bool false], .int .i64 0]) ∧ Below w.heap.size w w' := by
  have HS := Aside0.mk (sp.St.start w (.slice A0 n0 c0) (.int .i64 s0) (.slice A1 n1 c1) (.int .i64 s1) (.int .i64 fuse) (.int .i64 keep) (.bool false) (.func (.func 98) #[] #[]) (.func (.func 99) #[] #[]))
  have HRR := Aside0.mk HR
  have HMM := Aside0.mk HM
  have b0 : (fuse == 0) = false := beq_eq_false_iff_ne.mpr (by omega)
  have b1 : decide (0 < fuse) = false := decide_eq_false (by omega)
  clear HR HM hf
  go_enter Try.func96, Try.ntmps96
  go_upto_region 1 with fail
  generalize ((w.alloc (.cells #[.slice A0 n0 c0, .int .i64 s0, .slice A1 n1 c1, .int .i64 s1, .int .i64 fuse, .int .i64 keep, .bool false] 74)).alloc (.cells #[.func (.func 98) #[] #[], .func (.func 99) #[] #[]] 130)).alloc (.cells #[.slice none 0 0, .int .i64 0, .slice none 0 0, .int .i64 0, .int .i64 0, .int .i64 0, .bool false] 74) = W2 at HS ⊢
  have cd0 := (blk_cell HS.out.d 0).trans rfl; have cd1 := (blk_cell HS.out.d 1).trans rfl; have cd2 := (blk_cell HS.out.d 2).trans rfl; have cd3 := (blk_cell HS.out.d 3).trans rfl; have cd4 := (blk_cell HS.out.d 4).trans rfl; have cd5 := (blk_cell HS.out.d 5).trans rfl; have cd6 := (blk_cell HS.out.d 6).trans rfl
  go_upto_region 14 with (go_at_call 59; refine Calls.mono (HRR.out _) ?_; rintro e w1 ⟨rfl, hb⟩; have hs := HS.out.below hb; have HS1 := Aside0.mk hs; have a0 := (blk_cell hs.d 0).trans rfl; have fa0 := blk_frozen hs.d 0; have a1 := (blk_cell hs.d 1).trans rfl; have fa1 := blk_frozen hs.d 1; have a2 := (blk_cell hs.d 2).trans rfl; have fa2 := blk_frozen hs.d 2; have a3 := (blk_cell hs.d 3).trans rfl; have fa3 := blk_frozen hs.d 3; have a4 := (blk_cell hs.d 4).trans rfl; have fa4 := blk_frozen hs.d 4; have a5 := (blk_cell hs.d 5).trans rfl; have fa5 := blk_frozen hs.d 5; have a6 := (blk_cell hs.d 6).trans rfl; have fa6 := blk_frozen hs.d 6; have m0 := (blk_cell hs.m 0).trans rfl; have fm0 := blk_frozen hs.m 0; have m1 := (blk_cell hs.m 1).trans rfl; have fm1 := blk_frozen hs.m 1; have z0 := (blk_cell hs.z 0).trans rfl; have fz0 := blk_frozen hs.z 0; have z1 := (blk_cell hs.z 1).trans rfl; have fz1 := blk_frozen hs.z 1; have z2 := (blk_cell hs.z 2).trans rfl; have fz2 := blk_frozen hs.z 2; have z3 := (blk_cell hs.z 3).trans rfl; have fz3 := blk_frozen hs.z 3; have z4 := (blk_cell hs.z 4).trans rfl; have fz4 := blk_frozen hs.z 4; have z5 := (blk_cell hs.z 5).trans rfl; have fz5 := blk_frozen hs.z 5; have z6 := (blk_cell hs.z 6).trans rfl; have fz6 := blk_frozen hs.z 6; have hz := blk_lt hs.z; clear hb hs)
  have HSX := HS1
  clear HS1 z0 fz0 z1 fz1 z2 fz2 z3 fz3 z4 fz4 z5 fz5 z6 fz6
  go_region_with (go_at_call 98; refine Calls.mono (HMM.out _) ?_; rintro e w2 ⟨rfl, hb⟩; have hs := HSX.out.drew.below hb; have HS2 := Aside0.mk hs; have q0 := (blk_cell hs.d 0).trans rfl; have fq0 := blk_frozen hs.d 0; have q1 := (blk_cell hs.d 1).trans rfl; have fq1 := blk_frozen hs.d 1; have q2 := (blk_cell hs.d 2).trans rfl; have fq2 := blk_frozen hs.d 2; have q3 := (blk_cell hs.d 3).trans rfl; have fq3 := blk_frozen hs.d 3; have q4 := (blk_cell hs.d 4).trans rfl; have fq4 := blk_frozen hs.d 4; have q5 := (blk_cell hs.d 5).trans rfl; have fq5 := blk_frozen hs.d 5; have q6 := (blk_cell hs.d 6).trans rfl; have fq6 := blk_frozen hs.d 6; have y0 := (blk_cell hs.z 0).trans rfl; have fy0 := blk_frozen hs.z 0; have y1 := (blk_cell hs.z 1).trans rfl; have fy1 := blk_frozen hs.z 1; have y2 := (blk_cell hs.z 2).trans rfl; have fy2 := blk_frozen hs.z 2; have y3 := (blk_cell hs.z 3).trans rfl; have fy3 := blk_frozen hs.z 3; have y4 := (blk_cell hs.z 4).trans rfl; have fy4 := blk_frozen hs.z 4; have y5 := (blk_cell hs.z 5).trans rfl; have fy5 := blk_frozen hs.z 5; have y6 := (blk_cell hs.z 6).trans rfl; have fy6 := blk_frozen hs.z 6; have hz2 := blk_lt hs.z; clear hb hs)
  all_goals
    go_wp2
    refine bodyPost_ret (results_ct rfl _ _ (w.heap.size + 2) 74 _ (0, 0) _ rfl (sp.set7 ((HS2.out.set 0 _ rfl).set 1 _ rfl).z) Try.underlying74 rfl (by kernel_rfl)) rfl ?_
    exact ⟨rfl, sp.below7 _ _ _ _ _ _ _ ((HS2.out.set 0 _ rfl).set 1 _ rfl).b⟩
set_option maxHeartbeats 3200000 in
set_option maxRecDepth 100000 in
theorem sp.dec98_0 (A0 : Option Addr) (c0 n0 : Nat) (s0 : Int) (A1 : Option Addr) (c1 n1 : Nat) (s1 fuse keep : Int) (vA : Option Addr) (vn vc : Nat) (s' : Int) (w : World) (HR : ∀ W, Calls Try.prog 59 #[.agg #[.slice A0 n0 c0, .int .i64 s0, .slice A1 n1 c1, .int .i64 s1, .int .i64 fuse, .int .i64 keep, .bool false]] W fun e w' => e = .returned (.bool true) ∧ Below W.heap.size W w') (HM : ∀ W, Calls Try.prog 98 #[.agg #[.slice A0 n0 c0, .int .i64 s0]] W fun e w' => e = .returned (.agg #[.slice vA vn vc, .int .i64 s']) ∧ Below W.heap.size W w') (hf : 0 < fuse) :
    Calls Try.prog 96 #[.agg #[.slice A0 n0 c0, .int .i64 s0, .slice A1 n1 c1, .int .i64 s1, .int .i64 fuse, .int .i64 keep, .bool false], .int .i64 0, .bool false, .agg #[.func (.func 98) #[] #[], .func (.func 99) #[] #[]]] w fun e w' => e = .returned (.tuple #[.agg #[.slice vA vn vc, .int .i64 s', .slice A1 n1 c1, .int .i64 s1, .int .i64 (wrap64 (fuse - 1)), .int .i64 keep, .bool false], .int .i64 0]) ∧ Below w.heap.size w w' := by
  have HS := Aside0.mk (sp.St.start w (.slice A0 n0 c0) (.int .i64 s0) (.slice A1 n1 c1) (.int .i64 s1) (.int .i64 fuse) (.int .i64 keep) (.bool false) (.func (.func 98) #[] #[]) (.func (.func 99) #[] #[]))
  have HRR := Aside0.mk HR
  have HMM := Aside0.mk HM
  have b0 : (fuse == 0) = false := beq_eq_false_iff_ne.mpr (by omega)
  have b1 : decide (0 < fuse) = true := decide_eq_true (by omega)
  clear HR HM hf
  go_enter Try.func96, Try.ntmps96
  go_upto_region 1 with fail
  generalize ((w.alloc (.cells #[.slice A0 n0 c0, .int .i64 s0, .slice A1 n1 c1, .int .i64 s1, .int .i64 fuse, .int .i64 keep, .bool false] 74)).alloc (.cells #[.func (.func 98) #[] #[], .func (.func 99) #[] #[]] 130)).alloc (.cells #[.slice none 0 0, .int .i64 0, .slice none 0 0, .int .i64 0, .int .i64 0, .int .i64 0, .bool false] 74) = W2 at HS ⊢
  have cd0 := (blk_cell HS.out.d 0).trans rfl; have cd1 := (blk_cell HS.out.d 1).trans rfl; have cd2 := (blk_cell HS.out.d 2).trans rfl; have cd3 := (blk_cell HS.out.d 3).trans rfl; have cd4 := (blk_cell HS.out.d 4).trans rfl; have cd5 := (blk_cell HS.out.d 5).trans rfl; have cd6 := (blk_cell HS.out.d 6).trans rfl
  go_upto_region 14 with (go_at_call 59; refine Calls.mono (HRR.out _) ?_; rintro e w1 ⟨rfl, hb⟩; have hs := HS.out.below hb; have HS1 := Aside0.mk hs; have a0 := (blk_cell hs.d 0).trans rfl; have fa0 := blk_frozen hs.d 0; have a1 := (blk_cell hs.d 1).trans rfl; have fa1 := blk_frozen hs.d 1; have a2 := (blk_cell hs.d 2).trans rfl; have fa2 := blk_frozen hs.d 2; have a3 := (blk_cell hs.d 3).trans rfl; have fa3 := blk_frozen hs.d 3; have a4 := (blk_cell hs.d 4).trans rfl; have fa4 := blk_frozen hs.d 4; have a5 := (blk_cell hs.d 5).trans rfl; have fa5 := blk_frozen hs.d 5; have a6 := (blk_cell hs.d 6).trans rfl; have fa6 := blk_frozen hs.d 6; have m0 := (blk_cell hs.m 0).trans rfl; have fm0 := blk_frozen hs.m 0; have m1 := (blk_cell hs.m 1).trans rfl; have fm1 := blk_frozen hs.m 1; have z0 := (blk_cell hs.z 0).trans rfl; have fz0 := blk_frozen hs.z 0; have z1 := (blk_cell hs.z 1).trans rfl; have fz1 := blk_frozen hs.z 1; have z2 := (blk_cell hs.z 2).trans rfl; have fz2 := blk_frozen hs.z 2; have z3 := (blk_cell hs.z 3).trans rfl; have fz3 := blk_frozen hs.z 3; have z4 := (blk_cell hs.z 4).trans rfl; have fz4 := blk_frozen hs.z 4; have z5 := (blk_cell hs.z 5).trans rfl; have fz5 := blk_frozen hs.z 5; have z6 := (blk_cell hs.z 6).trans rfl; have fz6 := blk_frozen hs.z 6; have hz := blk_lt hs.z; clear hb hs)
  have HSX := Aside0.mk (HS1.out.set 4 (.int .i64 (wrap64 (fuse - 1))) rfl)
  generalize w1.setCell ⟨w.heap.size, 4, none⟩ (.int .i64 (wrap64 (fuse - 1))) = w3 at HSX ⊢
  clear a0 fa0 m0 fm0 a1 fa1 m1 fm1 a2 fa2 a3 fa3 a4 fa4 a5 fa5 a6 fa6 z0 fz0 z1 fz1 z2 fz2 z3 fz3 z4 fz4 z5 fz5 z6 fz6 hz HS1
  have p0 := (blk_cell HSX.out.d 0).trans rfl; have fp0 := blk_frozen HSX.out.d 0; have p1 := (blk_cell HSX.out.d 1).trans rfl; have fp1 := blk_frozen HSX.out.d 1; have p2 := (blk_cell HSX.out.d 2).trans rfl; have fp2 := blk_frozen HSX.out.d 2; have p3 := (blk_cell HSX.out.d 3).trans rfl; have fp3 := blk_frozen HSX.out.d 3; have p4 := (blk_cell HSX.out.d 4).trans rfl; have fp4 := blk_frozen HSX.out.d 4; have p5 := (blk_cell HSX.out.d 5).trans rfl; have fp5 := blk_frozen HSX.out.d 5; have p6 := (blk_cell HSX.out.d 6).trans rfl; have fp6 := blk_frozen HSX.out.d 6; have u0 := (blk_cell HSX.out.m 0).trans rfl; have fu0 := blk_frozen HSX.out.m 0; have u1 := (blk_cell HSX.out.m 1).trans rfl; have fu1 := blk_frozen HSX.out.m 1; have hzx := blk_lt HSX.out.z
  go_region_with (go_at_call 98; refine Calls.mono (HMM.out _) ?_; rintro e w2 ⟨rfl, hb⟩; have hs := HSX.out.drew.below hb; have HS2 := Aside0.mk hs; have q0 := (blk_cell hs.d 0).trans rfl; have fq0 := blk_frozen hs.d 0; have q1 := (blk_cell hs.d 1).trans rfl; have fq1 := blk_frozen hs.d 1; have q2 := (blk_cell hs.d 2).trans rfl; have fq2 := blk_frozen hs.d 2; have q3 := (blk_cell hs.d 3).trans rfl; have fq3 := blk_frozen hs.d 3; have q4 := (blk_cell hs.d 4).trans rfl; have fq4 := blk_frozen hs.d 4; have q5 := (blk_cell hs.d 5).trans rfl; have fq5 := blk_frozen hs.d 5; have q6 := (blk_cell hs.d 6).trans rfl; have fq6 := blk_frozen hs.d 6; have y0 := (blk_cell hs.z 0).trans rfl; have fy0 := blk_frozen hs.z 0; have y1 := (blk_cell hs.z 1).trans rfl; have fy1 := blk_frozen hs.z 1; have y2 := (blk_cell hs.z 2).trans rfl; have fy2 := blk_frozen hs.z 2; have y3 := (blk_cell hs.z 3).trans rfl; have fy3 := blk_frozen hs.z 3; have y4 := (blk_cell hs.z 4).trans rfl; have fy4 := blk_frozen hs.z 4; have y5 := (blk_cell hs.z 5).trans rfl; have fy5 := blk_frozen hs.z 5; have y6 := (blk_cell hs.z 6).trans rfl; have fy6 := blk_frozen hs.z 6; have hz2 := blk_lt hs.z; clear hb hs)
  all_goals
    go_wp2
    refine bodyPost_ret (results_ct rfl _ _ (w.heap.size + 2) 74 _ (0, 0) _ rfl (sp.set7 ((HS2.out.set 0 _ rfl).set 1 _ rfl).z) Try.underlying74 rfl (by kernel_rfl)) rfl ?_
    exact ⟨rfl, sp.below7 _ _ _ _ _ _ _ ((HS2.out.set 0 _ rfl).set 1 _ rfl).b⟩
set_option maxHeartbeats 3200000 in
set_option maxRecDepth 100000 in
theorem sp.free98_1 (A0 : Option Addr) (c0 n0 : Nat) (s0 : Int) (A1 : Option Addr) (c1 n1 : Nat) (s1 fuse keep : Int) (vA : Option Addr) (vn vc : Nat) (s' : Int) (w : World) (HR : ∀ W, Calls Try.prog 59 #[.agg #[.slice A0 n0 c0, .int .i64 s0, .slice A1 n1 c1, .int .i64 s1, .int .i64 fuse, .int .i64 keep, .bool false]] W fun e w' => e = .returned (.bool true) ∧ Below W.heap.size W w') (HM : ∀ W, Calls Try.prog 98 #[.agg #[.slice A1 n1 c1, .int .i64 s1]] W fun e w' => e = .returned (.agg #[.slice vA vn vc, .int .i64 s']) ∧ Below W.heap.size W w') (hf : fuse < 0) :
    Calls Try.prog 96 #[.agg #[.slice A0 n0 c0, .int .i64 s0, .slice A1 n1 c1, .int .i64 s1, .int .i64 fuse, .int .i64 keep, .bool false], .int .i64 1, .bool false, .agg #[.func (.func 98) #[] #[], .func (.func 99) #[] #[]]] w fun e w' => e = .returned (.tuple #[.agg #[.slice A0 n0 c0, .int .i64 s0, .slice vA vn vc, .int .i64 s', .int .i64 fuse, .int .i64 keep, .bool false], .int .i64 0]) ∧ Below w.heap.size w w' := by
  have HS := Aside0.mk (sp.St.start w (.slice A0 n0 c0) (.int .i64 s0) (.slice A1 n1 c1) (.int .i64 s1) (.int .i64 fuse) (.int .i64 keep) (.bool false) (.func (.func 98) #[] #[]) (.func (.func 99) #[] #[]))
  have HRR := Aside0.mk HR
  have HMM := Aside0.mk HM
  have b0 : (fuse == 0) = false := beq_eq_false_iff_ne.mpr (by omega)
  have b1 : decide (0 < fuse) = false := decide_eq_false (by omega)
  clear HR HM hf
  go_enter Try.func96, Try.ntmps96
  go_upto_region 1 with fail
  generalize ((w.alloc (.cells #[.slice A0 n0 c0, .int .i64 s0, .slice A1 n1 c1, .int .i64 s1, .int .i64 fuse, .int .i64 keep, .bool false] 74)).alloc (.cells #[.func (.func 98) #[] #[], .func (.func 99) #[] #[]] 130)).alloc (.cells #[.slice none 0 0, .int .i64 0, .slice none 0 0, .int .i64 0, .int .i64 0, .int .i64 0, .bool false] 74) = W2 at HS ⊢
  have cd0 := (blk_cell HS.out.d 0).trans rfl; have cd1 := (blk_cell HS.out.d 1).trans rfl; have cd2 := (blk_cell HS.out.d 2).trans rfl; have cd3 := (blk_cell HS.out.d 3).trans rfl; have cd4 := (blk_cell HS.out.d 4).trans rfl; have cd5 := (blk_cell HS.out.d 5).trans rfl; have cd6 := (blk_cell HS.out.d 6).trans rfl
  go_upto_region 14 with (go_at_call 59; refine Calls.mono (HRR.out _) ?_; rintro e w1 ⟨rfl, hb⟩; have hs := HS.out.below hb; have HS1 := Aside0.mk hs; have a0 := (blk_cell hs.d 0).trans rfl; have fa0 := blk_frozen hs.d 0; have a1 := (blk_cell hs.d 1).trans rfl; have fa1 := blk_frozen hs.d 1; have a2 := (blk_cell hs.d 2).trans rfl; have fa2 := blk_frozen hs.d 2; have a3 := (blk_cell hs.d 3).trans rfl; have fa3 := blk_frozen hs.d 3; have a4 := (blk_cell hs.d 4).trans rfl; have fa4 := blk_frozen hs.d 4; have a5 := (blk_cell hs.d 5).trans rfl; have fa5 := blk_frozen hs.d 5; have a6 := (blk_cell hs.d 6).trans rfl; have fa6 := blk_frozen hs.d 6; have m0 := (blk_cell hs.m 0).trans rfl; have fm0 := blk_frozen hs.m 0; have m1 := (blk_cell hs.m 1).trans rfl; have fm1 := blk_frozen hs.m 1; have z0 := (blk_cell hs.z 0).trans rfl; have fz0 := blk_frozen hs.z 0; have z1 := (blk_cell hs.z 1).trans rfl; have fz1 := blk_frozen hs.z 1; have z2 := (blk_cell hs.z 2).trans rfl; have fz2 := blk_frozen hs.z 2; have z3 := (blk_cell hs.z 3).trans rfl; have fz3 := blk_frozen hs.z 3; have z4 := (blk_cell hs.z 4).trans rfl; have fz4 := blk_frozen hs.z 4; have z5 := (blk_cell hs.z 5).trans rfl; have fz5 := blk_frozen hs.z 5; have z6 := (blk_cell hs.z 6).trans rfl; have fz6 := blk_frozen hs.z 6; have hz := blk_lt hs.z; clear hb hs)
  have HSX := HS1
  clear HS1 z0 fz0 z1 fz1 z2 fz2 z3 fz3 z4 fz4 z5 fz5 z6 fz6
  go_region_with (go_at_call 98; refine Calls.mono (HMM.out _) ?_; rintro e w2 ⟨rfl, hb⟩; have hs := HSX.out.drew.below hb; have HS2 := Aside0.mk hs; have q0 := (blk_cell hs.d 0).trans rfl; have fq0 := blk_frozen hs.d 0; have q1 := (blk_cell hs.d 1).trans rfl; have fq1 := blk_frozen hs.d 1; have q2 := (blk_cell hs.d 2).trans rfl; have fq2 := blk_frozen hs.d 2; have q3 := (blk_cell hs.d 3).trans rfl; have fq3 := blk_frozen hs.d 3; have q4 := (blk_cell hs.d 4).trans rfl; have fq4 := blk_frozen hs.d 4; have q5 := (blk_cell hs.d 5).trans rfl; have fq5 := blk_frozen hs.d 5; have q6 := (blk_cell hs.d 6).trans rfl; have fq6 := blk_frozen hs.d 6; have y0 := (blk_cell hs.z 0).trans rfl; have fy0 := blk_frozen hs.z 0; have y1 := (blk_cell hs.z 1).trans rfl; have fy1 := blk_frozen hs.z 1; have y2 := (blk_cell hs.z 2).trans rfl; have fy2 := blk_frozen hs.z 2; have y3 := (blk_cell hs.z 3).trans rfl; have fy3 := blk_frozen hs.z 3; have y4 := (blk_cell hs.z 4).trans rfl; have fy4 := blk_frozen hs.z 4; have y5 := (blk_cell hs.z 5).trans rfl; have fy5 := blk_frozen hs.z 5; have y6 := (blk_cell hs.z 6).trans rfl; have fy6 := blk_frozen hs.z 6; have hz2 := blk_lt hs.z; clear hb hs)
  all_goals
    go_wp2
    refine bodyPost_ret (results_ct rfl _ _ (w.heap.size + 2) 74 _ (0, 0) _ rfl (sp.set7 ((HS2.out.set 2 _ rfl).set 3 _ rfl).z) Try.underlying74 rfl (by kernel_rfl)) rfl ?_
    exact ⟨rfl, sp.below7 _ _ _ _ _ _ _ ((HS2.out.set 2 _ rfl).set 3 _ rfl).b⟩
set_option maxHeartbeats 3200000 in
set_option maxRecDepth 100000 in
theorem sp.dec98_1 (A0 : Option Addr) (c0 n0 : Nat) (s0 : Int) (A1 : Option Addr) (c1 n1 : Nat) (s1 fuse keep : Int) (vA : Option Addr) (vn vc : Nat) (s' : Int) (w : World) (HR : ∀ W, Calls Try.prog 59 #[.agg #[.slice A0 n0 c0, .int .i64 s0, .slice A1 n1 c1, .int .i64 s1, .int .i64 fuse, .int .i64 keep, .bool false]] W fun e w' => e = .returned (.bool true) ∧ Below W.heap.size W w') (HM : ∀ W, Calls Try.prog 98 #[.agg #[.slice A1 n1 c1, .int .i64 s1]] W fun e w' => e = .returned (.agg #[.slice vA vn vc, .int .i64 s']) ∧ Below W.heap.size W w') (hf : 0 < fuse) :
    Calls Try.prog 96 #[.agg #[.slice A0 n0 c0, .int .i64 s0, .slice A1 n1 c1, .int .i64 s1, .int .i64 fuse, .int .i64 keep, .bool false], .int .i64 1, .bool false, .agg #[.func (.func 98) #[] #[], .func (.func 99) #[] #[]]] w fun e w' => e = .returned (.tuple #[.agg #[.slice A0 n0 c0, .int .i64 s0, .slice vA vn vc, .int .i64 s', .int .i64 (wrap64 (fuse - 1)), .int .i64 keep, .bool false], .int .i64 0]) ∧ Below w.heap.size w w' := by
  have HS := Aside0.mk (sp.St.start w (.slice A0 n0 c0) (.int .i64 s0) (.slice A1 n1 c1) (.int .i64 s1) (.int .i64 fuse) (.int .i64 keep) (.bool false) (.func (.func 98) #[] #[]) (.func (.func 99) #[] #[]))
  have HRR := Aside0.mk HR
  have HMM := Aside0.mk HM
  have b0 : (fuse == 0) = false := beq_eq_false_iff_ne.mpr (by omega)
  have b1 : decide (0 < fuse) = true := decide_eq_true (by omega)
  clear HR HM hf
  go_enter Try.func96, Try.ntmps96
  go_upto_region 1 with fail
  generalize ((w.alloc (.cells #[.slice A0 n0 c0, .int .i64 s0, .slice A1 n1 c1, .int .i64 s1, .int .i64 fuse, .int .i64 keep, .bool false] 74)).alloc (.cells #[.func (.func 98) #[] #[], .func (.func 99) #[] #[]] 130)).alloc (.cells #[.slice none 0 0, .int .i64 0, .slice none 0 0, .int .i64 0, .int .i64 0, .int .i64 0, .bool false] 74) = W2 at HS ⊢
  have cd0 := (blk_cell HS.out.d 0).trans rfl; have cd1 := (blk_cell HS.out.d 1).trans rfl; have cd2 := (blk_cell HS.out.d 2).trans rfl; have cd3 := (blk_cell HS.out.d 3).trans rfl; have cd4 := (blk_cell HS.out.d 4).trans rfl; have cd5 := (blk_cell HS.out.d 5).trans rfl; have cd6 := (blk_cell HS.out.d 6).trans rfl
  go_upto_region 14 with (go_at_call 59; refine Calls.mono (HRR.out _) ?_; rintro e w1 ⟨rfl, hb⟩; have hs := HS.out.below hb; have HS1 := Aside0.mk hs; have a0 := (blk_cell hs.d 0).trans rfl; have fa0 := blk_frozen hs.d 0; have a1 := (blk_cell hs.d 1).trans rfl; have fa1 := blk_frozen hs.d 1; have a2 := (blk_cell hs.d 2).trans rfl; have fa2 := blk_frozen hs.d 2; have a3 := (blk_cell hs.d 3).trans rfl; have fa3 := blk_frozen hs.d 3; have a4 := (blk_cell hs.d 4).trans rfl; have fa4 := blk_frozen hs.d 4; have a5 := (blk_cell hs.d 5).trans rfl; have fa5 := blk_frozen hs.d 5; have a6 := (blk_cell hs.d 6).trans rfl; have fa6 := blk_frozen hs.d 6; have m0 := (blk_cell hs.m 0).trans rfl; have fm0 := blk_frozen hs.m 0; have m1 := (blk_cell hs.m 1).trans rfl; have fm1 := blk_frozen hs.m 1; have z0 := (blk_cell hs.z 0).trans rfl; have fz0 := blk_frozen hs.z 0; have z1 := (blk_cell hs.z 1).trans rfl; have fz1 := blk_frozen hs.z 1; have z2 := (blk_cell hs.z 2).trans rfl; have fz2 := blk_frozen hs.z 2; have z3 := (blk_cell hs.z 3).trans rfl; have fz3 := blk_frozen hs.z 3; have z4 := (blk_cell hs.z 4).trans rfl; have fz4 := blk_frozen hs.z 4; have z5 := (blk_cell hs.z 5).trans rfl; have fz5 := blk_frozen hs.z 5; have z6 := (blk_cell hs.z 6).trans rfl; have fz6 := blk_frozen hs.z 6; have hz := blk_lt hs.z; clear hb hs)
  have HSX := Aside0.mk (HS1.out.set 4 (.int .i64 (wrap64 (fuse - 1))) rfl)
  generalize w1.setCell ⟨w.heap.size, 4, none⟩ (.int .i64 (wrap64 (fuse - 1))) = w3 at HSX ⊢
  clear a0 fa0 m0 fm0 a1 fa1 m1 fm1 a2 fa2 a3 fa3 a4 fa4 a5 fa5 a6 fa6 z0 fz0 z1 fz1 z2 fz2 z3 fz3 z4 fz4 z5 fz5 z6 fz6 hz HS1
  have p0 := (blk_cell HSX.out.d 0).trans rfl; have fp0 := blk_frozen HSX.out.d 0; have p1 := (blk_cell HSX.out.d 1).trans rfl; have fp1 := blk_frozen HSX.out.d 1; have p2 := (blk_cell HSX.out.d 2).trans rfl; have fp2 := blk_frozen HSX.out.d 2; have p3 := (blk_cell HSX.out.d 3).trans rfl; have fp3 := blk_frozen HSX.out.d 3; have p4 := (blk_cell HSX.out.d 4).trans rfl; have fp4 := blk_frozen HSX.out.d 4; have p5 := (blk_cell HSX.out.d 5).trans rfl; have fp5 := blk_frozen HSX.out.d 5; have p6 := (blk_cell HSX.out.d 6).trans rfl; have fp6 := blk_frozen HSX.out.d 6; have u0 := (blk_cell HSX.out.m 0).trans rfl; have fu0 := blk_frozen HSX.out.m 0; have u1 := (blk_cell HSX.out.m 1).trans rfl; have fu1 := blk_frozen HSX.out.m 1; have hzx := blk_lt HSX.out.z
  go_region_with (go_at_call 98; refine Calls.mono (HMM.out _) ?_; rintro e w2 ⟨rfl, hb⟩; have hs := HSX.out.drew.below hb; have HS2 := Aside0.mk hs; have q0 := (blk_cell hs.d 0).trans rfl; have fq0 := blk_frozen hs.d 0; have q1 := (blk_cell hs.d 1).trans rfl; have fq1 := blk_frozen hs.d 1; have q2 := (blk_cell hs.d 2).trans rfl; have fq2 := blk_frozen hs.d 2; have q3 := (blk_cell hs.d 3).trans rfl; have fq3 := blk_frozen hs.d 3; have q4 := (blk_cell hs.d 4).trans rfl; have fq4 := blk_frozen hs.d 4; have q5 := (blk_cell hs.d 5).trans rfl; have fq5 := blk_frozen hs.d 5; have q6 := (blk_cell hs.d 6).trans rfl; have fq6 := blk_frozen hs.d 6; have y0 := (blk_cell hs.z 0).trans rfl; have fy0 := blk_frozen hs.z 0; have y1 := (blk_cell hs.z 1).trans rfl; have fy1 := blk_frozen hs.z 1; have y2 := (blk_cell hs.z 2).trans rfl; have fy2 := blk_frozen hs.z 2; have y3 := (blk_cell hs.z 3).trans rfl; have fy3 := blk_frozen hs.z 3; have y4 := (blk_cell hs.z 4).trans rfl; have fy4 := blk_frozen hs.z 4; have y5 := (blk_cell hs.z 5).trans rfl; have fy5 := blk_frozen hs.z 5; have y6 := (blk_cell hs.z 6).trans rfl; have fy6 := blk_frozen hs.z 6; have hz2 := blk_lt hs.z; clear hb hs)
  all_goals
    go_wp2
    refine bodyPost_ret (results_ct rfl _ _ (w.heap.size + 2) 74 _ (0, 0) _ rfl (sp.set7 ((HS2.out.set 2 _ rfl).set 3 _ rfl).z) Try.underlying74 rfl (by kernel_rfl)) rfl ?_
    exact ⟨rfl, sp.below7 _ _ _ _ _ _ _ ((HS2.out.set 2 _ rfl).set 3 _ rfl).b⟩
set_option maxHeartbeats 3200000 in
set_option maxRecDepth 100000 in
theorem sp.free103_0 (A0 : Option Addr) (c0 n0 : Nat) (s0 : Int) (A1 : Option Addr) (c1 n1 : Nat) (s1 fuse keep : Int) (vA : Option Addr) (vn vc : Nat) (s' : Int) (w : World) (HR : ∀ W, Calls Try.prog 59 #[.agg #[.slice A0 n0 c0, .int .i64 s0, .slice A1 n1 c1, .int .i64 s1, .int .i64 fuse, .int .i64 keep, .bool false]] W fun e w' => e = .returned (.bool true) ∧ Below W.heap.size W w') (HM : ∀ W, Calls Try.prog 103 #[.agg #[.slice A0 n0 c0, .int .i64 s0]] W fun e w' => e = .returned (.agg #[.slice vA vn vc, .int .i64 s']) ∧ Below W.heap.size W w') (hf : fuse < 0) :
    Calls Try.prog 96 #[.agg #[.slice A0 n0 c0, .int .i64 s0, .slice A1 n1 c1, .int .i64 s1, .int .i64 fuse, .int .i64 keep, .bool false], .int .i64 0, .bool false, .agg #[.func (.func 103) #[] #[], .func (.func 99) #[] #[]]] w fun e w' => e = .returned (.tuple #[.agg #[.slice vA vn vc, .int .i64 s', .slice A1 n1 c1, .int .i64 s1, .int .i64 fuse, .int .i64 keep, .bool false], .int .i64 0]) ∧ Below w.heap.size w w' := by
  have HS := Aside0.mk (sp.St.start w (.slice A0 n0 c0) (.int .i64 s0) (.slice A1 n1 c1) (.int .i64 s1) (.int .i64 fuse) (.int .i64 keep) (.bool false) (.func (.func 103) #[] #[]) (.func (.func 99) #[] #[]))
  have HRR := Aside0.mk HR
  have HMM := Aside0.mk HM
  have b0 : (fuse == 0) = false := beq_eq_false_iff_ne.mpr (by omega)
  have b1 : decide (0 < fuse) = false := decide_eq_false (by omega)
  clear HR HM hf
  go_enter Try.func96, Try.ntmps96
  go_upto_region 1 with fail
  generalize ((w.alloc (.cells #[.slice A0 n0 c0, .int .i64 s0, .slice A1 n1 c1, .int .i64 s1, .int .i64 fuse, .int .i64 keep, .bool false] 74)).alloc (.cells #[.func (.func 103) #[] #[], .func (.func 99) #[] #[]] 130)).alloc (.cells #[.slice none 0 0, .int .i64 0, .slice none 0 0, .int .i64 0, .int .i64 0, .int .i64 0, .bool false] 74) = W2 at HS ⊢
  have cd0 := (blk_cell HS.out.d 0).trans rfl; have cd1 := (blk_cell HS.out.d 1).trans rfl; have cd2 := (blk_cell HS.out.d 2).trans rfl; have cd3 := (blk_cell HS.out.d 3).trans rfl; have cd4 := (blk_cell HS.out.d 4).trans rfl; have cd5 := (blk_cell HS.out.d 5).trans rfl; have cd6 := (blk_cell HS.out.d 6).trans rfl
  go_upto_region 14 with (go_at_call 59; refine Calls.mono (HRR.out _) ?_; rintro e w1 ⟨rfl, hb⟩; have hs := HS.out.below hb; have HS1 := Aside0.mk hs; have a0 := (blk_cell hs.d 0).trans rfl; have fa0 := blk_frozen hs.d 0; have a1 := (blk_cell hs.d 1).trans rfl; have fa1 := blk_frozen hs.d 1; have a2 := (blk_cell hs.d 2).trans rfl; have fa2 := blk_frozen hs.d 2; have a3 := (blk_cell hs.d 3).trans rfl; have fa3 := blk_frozen hs.d 3; have a4 := (blk_cell hs.d 4).trans rfl; have fa4 := blk_frozen hs.d 4; have a5 := (blk_cell hs.d 5).trans rfl; have fa5 := blk_frozen hs.d 5; have a6 := (blk_cell hs.d 6).trans rfl; have fa6 := blk_frozen hs.d 6; have m0 := (blk_cell hs.m 0).trans rfl; have fm0 := blk_frozen hs.m 0; have m1 := (blk_cell hs.m 1).trans rfl; have fm1 := blk_frozen hs.m 1; have z0 := (blk_cell hs.z 0).trans rfl; have fz0 := blk_frozen hs.z 0; have z1 := (blk_cell hs.z 1).trans rfl; have fz1 := blk_frozen hs.z 1; have z2 := (blk_cell hs.z 2).trans rfl; have fz2 := blk_frozen hs.z 2; have z3 := (blk_cell hs.z 3).trans rfl; have fz3 := blk_frozen hs.z 3; have z4 := (blk_cell hs.z 4).trans rfl; have fz4 := blk_frozen hs.z 4; have z5 := (blk_cell hs.z 5).trans rfl; have fz5 := blk_frozen hs.z 5; have z6 := (blk_cell hs.z 6).trans rfl; have fz6 := blk_frozen hs.z 6; have hz := blk_lt hs.z; clear hb hs)
  have HSX := HS1
  clear HS1 z0 fz0 z1 fz1 z2 fz2 z3 fz3 z4 fz4 z5 fz5 z6 fz6
  go_region_with (go_at_call 103; refine Calls.mono (HMM.out _) ?_; rintro e w2 ⟨rfl, hb⟩; have hs := HSX.out.drew.below hb; have HS2 := Aside0.mk hs; have q0 := (blk_cell hs.d 0).trans rfl; have fq0 := blk_frozen hs.d 0; have q1 := (blk_cell hs.d 1).trans rfl; have fq1 := blk_frozen hs.d 1; have q2 := (blk_cell hs.d 2).trans rfl; have fq2 := blk_frozen hs.d 2; have q3 := (blk_cell hs.d 3).trans rfl; have fq3 := blk_frozen hs.d 3; have q4 := (blk_cell hs.d 4).trans rfl; have fq4 := blk_frozen hs.d 4; have q5 := (blk_cell hs.d 5).trans rfl; have fq5 := blk_frozen hs.d 5; have q6 := (blk_cell hs.d 6).trans rfl; have fq6 := blk_frozen hs.d 6; have y0 := (blk_cell hs.z 0).trans rfl; have fy0 := blk_frozen hs.z 0; have y1 := (blk_cell hs.z 1).trans rfl; have fy1 := blk_frozen hs.z 1; have y2 := (blk_cell hs.z 2).trans rfl; have fy2 := blk_frozen hs.z 2; have y3 := (blk_cell hs.z 3).trans rfl; have fy3 := blk_frozen hs.z 3; have y4 := (blk_cell hs.z 4).trans rfl; have fy4 := blk_frozen hs.z 4; have y5 := (blk_cell hs.z 5).trans rfl; have fy5 := blk_frozen hs.z 5; have y6 := (blk_cell hs.z 6).trans rfl; have fy6 := blk_frozen hs.z 6; have hz2 := blk_lt hs.z; clear hb hs)
  all_goals
    go_wp2
    refine bodyPost_ret (results_ct rfl _ _ (w.heap.size + 2) 74 _ (0, 0) _ rfl (sp.set7 ((HS2.out.set 0 _ rfl).set 1 _ rfl).z) Try.underlying74 rfl (by kernel_rfl)) rfl ?_
    exact ⟨rfl, sp.below7 _ _ _ _ _ _ _ ((HS2.out.set 0 _ rfl).set 1 _ rfl).b⟩
set_option maxHeartbeats 3200000 in
set_option maxRecDepth 100000 in
theorem sp.dec103_0 (A0 : Option Addr) (c0 n0 : Nat) (s0 : Int) (A1 : Option Addr) (c1 n1 : Nat) (s1 fuse keep : Int) (vA : Option Addr) (vn vc : Nat) (s' : Int) (w : World) (HR : ∀ W, Calls Try.prog 59 #[.agg #[.slice A0 n0 c0, .int .i64 s0, .slice A1 n1 c1, .int .i64 s1, .int .i64 fuse, .int .i64 keep, .bool false]] W fun e w' => e = .returned (.bool true) ∧ Below W.heap.size W w') (HM : ∀ W, Calls Try.prog 103 #[.agg #[.slice A0 n0 c0, .int .i64 s0]] W fun e w' => e = .returned (.agg #[.slice vA vn vc, .int .i64 s']) ∧ Below W.heap.size W w') (hf : 0 < fuse) :
    Calls Try.prog 96 #[.agg #[.slice A0 n0 c0, .int .i64 s0, .slice A1 n1 c1, .int .i64 s1, .int .i64 fuse, .int .i64 keep, .bool false], .int .i64 0, .bool false, .agg #[.func (.func 103) #[] #[], .func (.func 99) #[] #[]]] w fun e w' => e = .returned (.tuple #[.agg #[.slice vA vn vc, .int .i64 s', .slice A1 n1 c1, .int .i64 s1, .int .i64 (wrap64 (fuse - 1)), .int .i64 keep, .bool false], .int .i64 0]) ∧ Below w.heap.size w w' := by
  have HS := Aside0.mk (sp.St.start w (.slice A0 n0 c0) (.int .i64 s0) (.slice A1 n1 c1) (.int .i64 s1) (.int .i64 fuse) (.int .i64 keep) (.bool false) (.func (.func 103) #[] #[]) (.func (.func 99) #[] #[]))
  have HRR := Aside0.mk HR
  have HMM := Aside0.mk HM
  have b0 : (fuse == 0) = false := beq_eq_false_iff_ne.mpr (by omega)
  have b1 : decide (0 < fuse) = true := decide_eq_true (by omega)
  clear HR HM hf
  go_enter Try.func96, Try.ntmps96
  go_upto_region 1 with fail
  generalize ((w.alloc (.cells #[.slice A0 n0 c0, .int .i64 s0, .slice A1 n1 c1, .int .i64 s1, .int .i64 fuse, .int .i64 keep, .bool false] 74)).alloc (.cells #[.func (.func 103) #[] #[], .func (.func 99) #[] #[]] 130)).alloc (.cells #[.slice none 0 0, .int .i64 0, .slice none 0 0, .int .i64 0, .int .i64 0, .int .i64 0, .bool false] 74) = W2 at HS ⊢
  have cd0 := (blk_cell HS.out.d 0).trans rfl; have cd1 := (blk_cell HS.out.d 1).trans rfl; have cd2 := (blk_cell HS.out.d 2).trans rfl; have cd3 := (blk_cell HS.out.d 3).trans rfl; have cd4 := (blk_cell HS.out.d 4).trans rfl; have cd5 := (blk_cell HS.out.d 5).trans rfl; have cd6 := (blk_cell HS.out.d 6).trans rfl
  go_upto_region 14 with (go_at_call 59; refine Calls.mono (HRR.out _) ?_; rintro e w1 ⟨rfl, hb⟩; have hs := HS.out.below hb; have HS1 := Aside0.mk hs; have a0 := (blk_cell hs.d 0).trans rfl; have fa0 := blk_frozen hs.d 0; have a1 := (blk_cell hs.d 1).trans rfl; have fa1 := blk_frozen hs.d 1; have a2 := (blk_cell hs.d 2).trans rfl; have fa2 := blk_frozen hs.d 2; have a3 := (blk_cell hs.d 3).trans rfl; have fa3 := blk_frozen hs.d 3; have a4 := (blk_cell hs.d 4).trans rfl; have fa4 := blk_frozen hs.d 4; have a5 := (blk_cell hs.d 5).trans rfl; have fa5 := blk_frozen hs.d 5; have a6 := (blk_cell hs.d 6).trans rfl; have fa6 := blk_frozen hs.d 6; have m0 := (blk_cell hs.m 0).trans rfl; have fm0 := blk_frozen hs.m 0; have m1 := (blk_cell hs.m 1).trans rfl; have fm1 := blk_frozen hs.m 1; have z0 := (blk_cell hs.z 0).trans rfl; have fz0 := blk_frozen hs.z 0; have z1 := (blk_cell hs.z 1).trans rfl; have fz1 := blk_frozen hs.z 1; have z2 := (blk_cell hs.z 2).trans rfl; have fz2 := blk_frozen hs.z 2; have z3 := (blk_cell hs.z 3).trans rfl; have fz3 := blk_frozen hs.z 3; have z4 := (blk_cell hs.z 4).trans rfl; have fz4 := blk_frozen hs.z 4; have z5 := (blk_cell hs.z 5).trans rfl; have fz5 := blk_frozen hs.z 5; have z6 := (blk_cell hs.z 6).trans rfl; have fz6 := blk_frozen hs.z 6; have hz := blk_lt hs.z; clear hb hs)
  have HSX := Aside0.mk (HS1.out.set 4 (.int .i64 (wrap64 (fuse - 1))) rfl)
  generalize w1.setCell ⟨w.heap.size, 4, none⟩ (.int .i64 (wrap64 (fuse - 1))) = w3 at HSX ⊢
  clear a0 fa0 m0 fm0 a1 fa1 m1 fm1 a2 fa2 a3 fa3 a4 fa4 a5 fa5 a6 fa6 z0 fz0 z1 fz1 z2 fz2 z3 fz3 z4 fz4 z5 fz5 z6 fz6 hz HS1
  have p0 := (blk_cell HSX.out.d 0).trans rfl; have fp0 := blk_frozen HSX.out.d 0; have p1 := (blk_cell HSX.out.d 1).trans rfl; have fp1 := blk_frozen HSX.out.d 1; have p2 := (blk_cell HSX.out.d 2).trans rfl; have fp2 := blk_frozen HSX.out.d 2; have p3 := (blk_cell HSX.out.d 3).trans rfl; have fp3 := blk_frozen HSX.out.d 3; have p4 := (blk_cell HSX.out.d 4).trans rfl; have fp4 := blk_frozen HSX.out.d 4; have p5 := (blk_cell HSX.out.d 5).trans rfl; have fp5 := blk_frozen HSX.out.d 5; have p6 := (blk_cell HSX.out.d 6).trans rfl; have fp6 := blk_frozen HSX.out.d 6; have u0 := (blk_cell HSX.out.m 0).trans rfl; have fu0 := blk_frozen HSX.out.m 0; have u1 := (blk_cell HSX.out.m 1).trans rfl; have fu1 := blk_frozen HSX.out.m 1; have hzx := blk_lt HSX.out.z
  go_region_with (go_at_call 103; refine Calls.mono (HMM.out _) ?_; rintro e w2 ⟨rfl, hb⟩; have hs := HSX.out.drew.below hb; have HS2 := Aside0.mk hs; have q0 := (blk_cell hs.d 0).trans rfl; have fq0 := blk_frozen hs.d 0; have q1 := (blk_cell hs.d 1).trans rfl; have fq1 := blk_frozen hs.d 1; have q2 := (blk_cell hs.d 2).trans rfl; have fq2 := blk_frozen hs.d 2; have q3 := (blk_cell hs.d 3).trans rfl; have fq3 := blk_frozen hs.d 3; have q4 := (blk_cell hs.d 4).trans rfl; have fq4 := blk_frozen hs.d 4; have q5 := (blk_cell hs.d 5).trans rfl; have fq5 := blk_frozen hs.d 5; have q6 := (blk_cell hs.d 6).trans rfl; have fq6 := blk_frozen hs.d 6; have y0 := (blk_cell hs.z 0).trans rfl; have fy0 := blk_frozen hs.z 0; have y1 := (blk_cell hs.z 1).trans rfl; have fy1 := blk_frozen hs.z 1; have y2 := (blk_cell hs.z 2).trans rfl; have fy2 := blk_frozen hs.z 2; have y3 := (blk_cell hs.z 3).trans rfl; have fy3 := blk_frozen hs.z 3; have y4 := (blk_cell hs.z 4).trans rfl; have fy4 := blk_frozen hs.z 4; have y5 := (blk_cell hs.z 5).trans rfl; have fy5 := blk_frozen hs.z 5; have y6 := (blk_cell hs.z 6).trans rfl; have fy6 := blk_frozen hs.z 6; have hz2 := blk_lt hs.z; clear hb hs)
  all_goals
    go_wp2
    refine bodyPost_ret (results_ct rfl _ _ (w.heap.size + 2) 74 _ (0, 0) _ rfl (sp.set7 ((HS2.out.set 0 _ rfl).set 1 _ rfl).z) Try.underlying74 rfl (by kernel_rfl)) rfl ?_
    exact ⟨rfl, sp.below7 _ _ _ _ _ _ _ ((HS2.out.set 0 _ rfl).set 1 _ rfl).b⟩
set_option maxHeartbeats 3200000 in
set_option maxRecDepth 100000 in
theorem sp.free103_1 (A0 : Option Addr) (c0 n0 : Nat) (s0 : Int) (A1 : Option Addr) (c1 n1 : Nat) (s1 fuse keep : Int) (vA : Option Addr) (vn vc : Nat) (s' : Int) (w : World) (HR : ∀ W, Calls Try.prog 59 #[.agg #[.slice A0 n0 c0, .int .i64 s0, .slice A1 n1 c1, .int .i64 s1, .int .i64 fuse, .int .i64 keep, .bool false]] W fun e w' => e = .returned (.bool true) ∧ Below W.heap.size W w') (HM : ∀ W, Calls Try.prog 103 #[.agg #[.slice A1 n1 c1, .int .i64 s1]] W fun e w' => e = .returned (.agg #[.slice vA vn vc, .int .i64 s']) ∧ Below W.heap.size W w') (hf : fuse < 0) :
    Calls Try.prog 96 #[.agg #[.slice A0 n0 c0, .int .i64 s0, .slice A1 n1 c1, .int .i64 s1, .int .i64 fuse, .int .i64 keep, .bool false], .int .i64 1, .bool false, .agg #[.func (.func 103) #[] #[], .func (.func 99) #[] #[]]] w fun e w' => e = .returned (.tuple #[.agg #[.slice A0 n0 c0, .int .i64 s0, .slice vA vn vc, .int .i64 s', .int .i64 fuse, .int .i64 keep, .bool false], .int .i64 0]) ∧ Below w.heap.size w w' := by
  have HS := Aside0.mk (sp.St.start w (.slice A0 n0 c0) (.int .i64 s0) (.slice A1 n1 c1) (.int .i64 s1) (.int .i64 fuse) (.int .i64 keep) (.bool false) (.func (.func 103) #[] #[]) (.func (.func 99) #[] #[]))
  have HRR := Aside0.mk HR
  have HMM := Aside0.mk HM
  have b0 : (fuse == 0) = false := beq_eq_false_iff_ne.mpr (by omega)
  have b1 : decide (0 < fuse) = false := decide_eq_false (by omega)
  clear HR HM hf
  go_enter Try.func96, Try.ntmps96
  go_upto_region 1 with fail
  generalize ((w.alloc (.cells #[.slice A0 n0 c0, .int .i64 s0, .slice A1 n1 c1, .int .i64 s1, .int .i64 fuse, .int .i64 keep, .bool false] 74)).alloc (.cells #[.func (.func 103) #[] #[], .func (.func 99) #[] #[]] 130)).alloc (.cells #[.slice none 0 0, .int .i64 0, .slice none 0 0, .int .i64 0, .int .i64 0, .int .i64 0, .bool false] 74) = W2 at HS ⊢
  have cd0 := (blk_cell HS.out.d 0).trans rfl; have cd1 := (blk_cell HS.out.d 1).trans rfl; have cd2 := (blk_cell HS.out.d 2).trans rfl; have cd3 := (blk_cell HS.out.d 3).trans rfl; have cd4 := (blk_cell HS.out.d 4).trans rfl; have cd5 := (blk_cell HS.out.d 5).trans rfl; have cd6 := (blk_cell HS.out.d 6).trans rfl
  go_upto_region 14 with (go_at_call 59; refine Calls.mono (HRR.out _) ?_; rintro e w1 ⟨rfl, hb⟩; have hs := HS.out.below hb; have HS1 := Aside0.mk hs; have a0 := (blk_cell hs.d 0).trans rfl; have fa0 := blk_frozen hs.d 0; have a1 := (blk_cell hs.d 1).trans rfl; have fa1 := blk_frozen hs.d 1; have a2 := (blk_cell hs.d 2).trans rfl; have fa2 := blk_frozen hs.d 2; have a3 := (blk_cell hs.d 3).trans rfl; have fa3 := blk_frozen hs.d 3; have a4 := (blk_cell hs.d 4).trans rfl; have fa4 := blk_frozen hs.d 4; have a5 := (blk_cell hs.d 5).trans rfl; have fa5 := blk_frozen hs.d 5; have a6 := (blk_cell hs.d 6).trans rfl; have fa6 := blk_frozen hs.d 6; have m0 := (blk_cell hs.m 0).trans rfl; have fm0 := blk_frozen hs.m 0; have m1 := (blk_cell hs.m 1).trans rfl; have fm1 := blk_frozen hs.m 1; have z0 := (blk_cell hs.z 0).trans rfl; have fz0 := blk_frozen hs.z 0; have z1 := (blk_cell hs.z 1).trans rfl; have fz1 := blk_frozen hs.z 1; have z2 := (blk_cell hs.z 2).trans rfl; have fz2 := blk_frozen hs.z 2; have z3 := (blk_cell hs.z 3).trans rfl; have fz3 := blk_frozen hs.z 3; have z4 := (blk_cell hs.z 4).trans rfl; have fz4 := blk_frozen hs.z 4; have z5 := (blk_cell hs.z 5).trans rfl; have fz5 := blk_frozen hs.z 5; have z6 := (blk_cell hs.z 6).trans rfl; have fz6 := blk_frozen hs.z 6; have hz := blk_lt hs.z; clear hb hs)
  have HSX := HS1
  clear HS1 z0 fz0 z1 fz1 z2 fz2 z3 fz3 z4 fz4 z5 fz5 z6 fz6
  go_region_with (go_at_call 103; refine Calls.mono (HMM.out _) ?_; rintro e w2 ⟨rfl, hb⟩; have hs := HSX.out.drew.below hb; have HS2 := Aside0.mk hs; have q0 := (blk_cell hs.d 0).trans rfl; have fq0 := blk_frozen hs.d 0; have q1 := (blk_cell hs.d 1).trans rfl; have fq1 := blk_frozen hs.d 1; have q2 := (blk_cell hs.d 2).trans rfl; have fq2 := blk_frozen hs.d 2; have q3 := (blk_cell hs.d 3).trans rfl; have fq3 := blk_frozen hs.d 3; have q4 := (blk_cell hs.d 4).trans rfl; have fq4 := blk_frozen hs.d 4; have q5 := (blk_cell hs.d 5).trans rfl; have fq5 := blk_frozen hs.d 5; have q6 := (blk_cell hs.d 6).trans rfl; have fq6 := blk_frozen hs.d 6; have y0 := (blk_cell hs.z 0).trans rfl; have fy0 := blk_frozen hs.z 0; have y1 := (blk_cell hs.z 1).trans rfl; have fy1 := blk_frozen hs.z 1; have y2 := (blk_cell hs.z 2).trans rfl; have fy2 := blk_frozen hs.z 2; have y3 := (blk_cell hs.z 3).trans rfl; have fy3 := blk_frozen hs.z 3; have y4 := (blk_cell hs.z 4).trans rfl; have fy4 := blk_frozen hs.z 4; have y5 := (blk_cell hs.z 5).trans rfl; have fy5 := blk_frozen hs.z 5; have y6 := (blk_cell hs.z 6).trans rfl; have fy6 := blk_frozen hs.z 6; have hz2 := blk_lt hs.z; clear hb hs)
  all_goals
    go_wp2
    refine bodyPost_ret (results_ct rfl _ _ (w.heap.size + 2) 74 _ (0, 0) _ rfl (sp.set7 ((HS2.out.set 2 _ rfl).set 3 _ rfl).z) Try.underlying74 rfl (by kernel_rfl)) rfl ?_
    exact ⟨rfl, sp.below7 _ _ _ _ _ _ _ ((HS2.out.set 2 _ rfl).set 3 _ rfl).b⟩
set_option maxHeartbeats 3200000 in
set_option maxRecDepth 100000 in
theorem sp.dec103_1 (A0 : Option Addr) (c0 n0 : Nat) (s0 : Int) (A1 : Option Addr) (c1 n1 : Nat) (s1 fuse keep : Int) (vA : Option Addr) (vn vc : Nat) (s' : Int) (w : World) (HR : ∀ W, Calls Try.prog 59 #[.agg #[.slice A0 n0 c0, .int .i64 s0, .slice A1 n1 c1, .int .i64 s1, .int .i64 fuse, .int .i64 keep, .bool false]] W fun e w' => e = .returned (.bool true) ∧ Below W.heap.size W w') (HM : ∀ W, Calls Try.prog 103 #[.agg #[.slice A1 n1 c1, .int .i64 s1]] W fun e w' => e = .returned (.agg #[.slice vA vn vc, .int .i64 s']) ∧ Below W.heap.size W w') (hf : 0 < fuse) :
    Calls Try.prog 96 #[.agg #[.slice A0 n0 c0, .int .i64 s0, .slice A1 n1 c1, .int .i64 s1, .int .i64 fuse, .int .i64 keep, .bool false], .int .i64 1, .bool false, .agg #[.func (.func 103) #[] #[], .func (.func 99) #[] #[]]] w fun e w' => e = .returned (.tuple #[.agg #[.slice A0 n0 c0, .int .i64 s0, .slice vA vn vc, .int .i64 s', .int .i64 (wrap64 (fuse - 1)), .int .i64 keep, .bool false], .int .i64 0]) ∧ Below w.heap.size w w' := by
  have HS := Aside0.mk (sp.St.start w (.slice A0 n0 c0) (.int .i64 s0) (.slice A1 n1 c1) (.int .i64 s1) (.int .i64 fuse) (.int .i64 keep) (.bool false) (.func (.func 103) #[] #[]) (.func (.func 99) #[] #[]))
  have HRR := Aside0.mk HR
  have HMM := Aside0.mk HM
  have b0 : (fuse == 0) = false := beq_eq_false_iff_ne.mpr (by omega)
  have b1 : decide (0 < fuse) = true := decide_eq_true (by omega)
  clear HR HM hf
  go_enter Try.func96, Try.ntmps96
  go_upto_region 1 with fail
  generalize ((w.alloc (.cells #[.slice A0 n0 c0, .int .i64 s0, .slice A1 n1 c1, .int .i64 s1, .int .i64 fuse, .int .i64 keep, .bool false] 74)).alloc (.cells #[.func (.func 103) #[] #[], .func (.func 99) #[] #[]] 130)).alloc (.cells #[.slice none 0 0, .int .i64 0, .slice none 0 0, .int .i64 0, .int .i64 0, .int .i64 0, .bool false] 74) = W2 at HS ⊢
  have cd0 := (blk_cell HS.out.d 0).trans rfl; have cd1 := (blk_cell HS.out.d 1).trans rfl; have cd2 := (blk_cell HS.out.d 2).trans rfl; have cd3 := (blk_cell HS.out.d 3).trans rfl; have cd4 := (blk_cell HS.out.d 4).trans rfl; have cd5 := (blk_cell HS.out.d 5).trans rfl; have cd6 := (blk_cell HS.out.d 6).trans rfl
  go_upto_region 14 with (go_at_call 59; refine Calls.mono (HRR.out _) ?_; rintro e w1 ⟨rfl, hb⟩; have hs := HS.out.below hb; have HS1 := Aside0.mk hs; have a0 := (blk_cell hs.d 0).trans rfl; have fa0 := blk_frozen hs.d 0; have a1 := (blk_cell hs.d 1).trans rfl; have fa1 := blk_frozen hs.d 1; have a2 := (blk_cell hs.d 2).trans rfl; have fa2 := blk_frozen hs.d 2; have a3 := (blk_cell hs.d 3).trans rfl; have fa3 := blk_frozen hs.d 3; have a4 := (blk_cell hs.d 4).trans rfl; have fa4 := blk_frozen hs.d 4; have a5 := (blk_cell hs.d 5).trans rfl; have fa5 := blk_frozen hs.d 5; have a6 := (blk_cell hs.d 6).trans rfl; have fa6 := blk_frozen hs.d 6; have m0 := (blk_cell hs.m 0).trans rfl; have fm0 := blk_frozen hs.m 0; have m1 := (blk_cell hs.m 1).trans rfl; have fm1 := blk_frozen hs.m 1; have z0 := (blk_cell hs.z 0).trans rfl; have fz0 := blk_frozen hs.z 0; have z1 := (blk_cell hs.z 1).trans rfl; have fz1 := blk_frozen hs.z 1; have z2 := (blk_cell hs.z 2).trans rfl; have fz2 := blk_frozen hs.z 2; have z3 := (blk_cell hs.z 3).trans rfl; have fz3 := blk_frozen hs.z 3; have z4 := (blk_cell hs.z 4).trans rfl; have fz4 := blk_frozen hs.z 4; have z5 := (blk_cell hs.z 5).trans rfl; have fz5 := blk_frozen hs.z 5; have z6 := (blk_cell hs.z 6).trans rfl; have fz6 := blk_frozen hs.z 6; have hz := blk_lt hs.z; clear hb hs)
  have HSX := Aside0.mk (HS1.out.set 4 (.int .i64 (wrap64 (fuse - 1))) rfl)
  generalize w1.setCell ⟨w.heap.size, 4, none⟩ (.int .i64 (wrap64 (fuse - 1))) = w3 at HSX ⊢
  clear a0 fa0 m0 fm0 a1 fa1 m1 fm1 a2 fa2 a3 fa3 a4 fa4 a5 fa5 a6 fa6 z0 fz0 z1 fz1 z2 fz2 z3 fz3 z4 fz4 z5 fz5 z6 fz6 hz HS1
  have p0 := (blk_cell HSX.out.d 0).trans rfl; have fp0 := blk_frozen HSX.out.d 0; have p1 := (blk_cell HSX.out.d 1).trans rfl; have fp1 := blk_frozen HSX.out.d 1; have p2 := (blk_cell HSX.out.d 2).trans rfl; have fp2 := blk_frozen HSX.out.d 2; have p3 := (blk_cell HSX.out.d 3).trans rfl; have fp3 := blk_frozen HSX.out.d 3; have p4 := (blk_cell HSX.out.d 4).trans rfl; have fp4 := blk_frozen HSX.out.d 4; have p5 := (blk_cell HSX.out.d 5).trans rfl; have fp5 := blk_frozen HSX.out.d 5; have p6 := (blk_cell HSX.out.d 6).trans rfl; have fp6 := blk_frozen HSX.out.d 6; have u0 := (blk_cell HSX.out.m 0).trans rfl; have fu0 := blk_frozen HSX.out.m 0; have u1 := (blk_cell HSX.out.m 1).trans rfl; have fu1 := blk_frozen HSX.out.m 1; have hzx := blk_lt HSX.out.z
  go_region_with (go_at_call 103; refine Calls.mono (HMM.out _) ?_; rintro e w2 ⟨rfl, hb⟩; have hs := HSX.out.drew.below hb; have HS2 := Aside0.mk hs; have q0 := (blk_cell hs.d 0).trans rfl; have fq0 := blk_frozen hs.d 0; have q1 := (blk_cell hs.d 1).trans rfl; have fq1 := blk_frozen hs.d 1; have q2 := (blk_cell hs.d 2).trans rfl; have fq2 := blk_frozen hs.d 2; have q3 := (blk_cell hs.d 3).trans rfl; have fq3 := blk_frozen hs.d 3; have q4 := (blk_cell hs.d 4).trans rfl; have fq4 := blk_frozen hs.d 4; have q5 := (blk_cell hs.d 5).trans rfl; have fq5 := blk_frozen hs.d 5; have q6 := (blk_cell hs.d 6).trans rfl; have fq6 := blk_frozen hs.d 6; have y0 := (blk_cell hs.z 0).trans rfl; have fy0 := blk_frozen hs.z 0; have y1 := (blk_cell hs.z 1).trans rfl; have fy1 := blk_frozen hs.z 1; have y2 := (blk_cell hs.z 2).trans rfl; have fy2 := blk_frozen hs.z 2; have y3 := (blk_cell hs.z 3).trans rfl; have fy3 := blk_frozen hs.z 3; have y4 := (blk_cell hs.z 4).trans rfl; have fy4 := blk_frozen hs.z 4; have y5 := (blk_cell hs.z 5).trans rfl; have fy5 := blk_frozen hs.z 5; have y6 := (blk_cell hs.z 6).trans rfl; have fy6 := blk_frozen hs.z 6; have hz2 := blk_lt hs.z; clear hb hs)
  all_goals
    go_wp2
    refine bodyPost_ret (results_ct rfl _ _ (w.heap.size + 2) 74 _ (0, 0) _ rfl (sp.set7 ((HS2.out.set 2 _ rfl).set 3 _ rfl).z) Try.underlying74 rfl (by kernel_rfl)) rfl ?_
    exact ⟨rfl, sp.below7 _ _ _ _ _ _ _ ((HS2.out.set 2 _ rfl).set 3 _ rfl).b⟩
set_option maxHeartbeats 3200000 in
set_option maxRecDepth 100000 in
theorem sp.free109_0 (A0 : Option Addr) (c0 n0 : Nat) (s0 : Int) (A1 : Option Addr) (c1 n1 : Nat) (s1 fuse keep : Int) (g1 g2 : Nat) (r : List Int) (w : World) (HR : ∀ W, Calls Try.prog 59 #[.agg #[.slice A0 n0 c0, .int .i64 s0, .slice A1 n1 c1, .int .i64 s1, .int .i64 fuse, .int .i64 keep, .bool false]] W fun e w' => e = .returned (.bool true) ∧ Below W.heap.size W w') (HM : ∀ W, Below w.heap.size w W → Calls Try.prog 109 #[.agg #[.slice A0 n0 c0, .int .i64 s0], .pointer (some ⟨g1, 0, none⟩)] W fun e w' => ∃ v0, e = .returned (.agg #[v0, .int .i64 s0]) ∧ Kd.R (Kd.int .u8) 5 w' W.heap.size (fun _ => True) v0 r ∧ Below W.heap.size W w') (hf : fuse < 0) :
    Calls Try.prog 96 #[.agg #[.slice A0 n0 c0, .int .i64 s0, .slice A1 n1 c1, .int .i64 s1, .int .i64 fuse, .int .i64 keep, .bool false], .int .i64 0, .bool false, .agg #[.func (.func 109) #[] #[.pointer (some ⟨g1, 0, none⟩)], .func (.func 109) #[] #[.pointer (some ⟨g2, 0, none⟩)]]] w fun e w' => ∃ v0 : Value, e = .returned (.tuple #[.agg #[v0, .int .i64 s0, .slice A1 n1 c1, .int .i64 s1, .int .i64 fuse, .int .i64 keep, .bool false], .int .i64 0]) ∧ Kd.R (Kd.int .u8) 5 w' w.heap.size (fun _ => True) v0 r ∧ Below w.heap.size w w' := by
  have HS := Aside0.mk (sp.St.start w (.slice A0 n0 c0) (.int .i64 s0) (.slice A1 n1 c1) (.int .i64 s1) (.int .i64 fuse) (.int .i64 keep) (.bool false) (.func (.func 109) #[] #[.pointer (some ⟨g1, 0, none⟩)]) (.func (.func 109) #[] #[.pointer (some ⟨g2, 0, none⟩)]))
  have HRR := Aside0.mk HR
  have HMM := Aside0.mk HM
  have b0 : (fuse == 0) = false := beq_eq_false_iff_ne.mpr (by omega)
  have b1 : decide (0 < fuse) = false := decide_eq_false (by omega)
  clear HR HM hf
  go_enter Try.func96, Try.ntmps96
  go_upto_region 1 with fail
  generalize ((w.alloc (.cells #[.slice A0 n0 c0, .int .i64 s0, .slice A1 n1 c1, .int .i64 s1, .int .i64 fuse, .int .i64 keep, .bool false] 74)).alloc (.cells #[.func (.func 109) #[] #[.pointer (some ⟨g1, 0, none⟩)], .func (.func 109) #[] #[.pointer (some ⟨g2, 0, none⟩)]] 130)).alloc (.cells #[.slice none 0 0, .int .i64 0, .slice none 0 0, .int .i64 0, .int .i64 0, .int .i64 0, .bool false] 74) = W2 at HS ⊢
  have cd0 := (blk_cell HS.out.d 0).trans rfl; have cd1 := (blk_cell HS.out.d 1).trans rfl; have cd2 := (blk_cell HS.out.d 2).trans rfl; have cd3 := (blk_cell HS.out.d 3).trans rfl; have cd4 := (blk_cell HS.out.d 4).trans rfl; have cd5 := (blk_cell HS.out.d 5).trans rfl; have cd6 := (blk_cell HS.out.d 6).trans rfl
  go_upto_region 14 with (go_at_call 59; refine Calls.mono (HRR.out _) ?_; rintro e w1 ⟨rfl, hb⟩; have hs := HS.out.below hb; have HS1 := Aside0.mk hs; have a0 := (blk_cell hs.d 0).trans rfl; have fa0 := blk_frozen hs.d 0; have a1 := (blk_cell hs.d 1).trans rfl; have fa1 := blk_frozen hs.d 1; have a2 := (blk_cell hs.d 2).trans rfl; have fa2 := blk_frozen hs.d 2; have a3 := (blk_cell hs.d 3).trans rfl; have fa3 := blk_frozen hs.d 3; have a4 := (blk_cell hs.d 4).trans rfl; have fa4 := blk_frozen hs.d 4; have a5 := (blk_cell hs.d 5).trans rfl; have fa5 := blk_frozen hs.d 5; have a6 := (blk_cell hs.d 6).trans rfl; have fa6 := blk_frozen hs.d 6; have m0 := (blk_cell hs.m 0).trans rfl; have fm0 := blk_frozen hs.m 0; have m1 := (blk_cell hs.m 1).trans rfl; have fm1 := blk_frozen hs.m 1; have z0 := (blk_cell hs.z 0).trans rfl; have fz0 := blk_frozen hs.z 0; have z1 := (blk_cell hs.z 1).trans rfl; have fz1 := blk_frozen hs.z 1; have z2 := (blk_cell hs.z 2).trans rfl; have fz2 := blk_frozen hs.z 2; have z3 := (blk_cell hs.z 3).trans rfl; have fz3 := blk_frozen hs.z 3; have z4 := (blk_cell hs.z 4).trans rfl; have fz4 := blk_frozen hs.z 4; have z5 := (blk_cell hs.z 5).trans rfl; have fz5 := blk_frozen hs.z 5; have z6 := (blk_cell hs.z 6).trans rfl; have fz6 := blk_frozen hs.z 6; have hz := blk_lt hs.z; clear hb hs)
  have HSX := HS1
  clear HS1 z0 fz0 z1 fz1 z2 fz2 z3 fz3 z4 fz4 z5 fz5 z6 fz6
  go_region_with (go_at_call 109; refine Calls.mono (HMM.out _ HSX.out.drew.b) ?_; rintro e w2 ⟨v0, rfl, ho, hb⟩; obtain ⟨Av, cv, rfl⟩ := Kd.R_slice ho; have HO := Aside0.mk (Kd.R_lower (Kd.R_mono (Kd.R_bound ho) (fun k_ hk => show w.heap.size + 2 < k_ from Nat.lt_of_lt_of_le (blk_lt HSX.out.drew.z) hk.2.1)) HSX.out.drew.b.size); have hs := HSX.out.drew.below hb; have HS2 := Aside0.mk hs; have q0 := (blk_cell hs.d 0).trans rfl; have fq0 := blk_frozen hs.d 0; have q1 := (blk_cell hs.d 1).trans rfl; have fq1 := blk_frozen hs.d 1; have q2 := (blk_cell hs.d 2).trans rfl; have fq2 := blk_frozen hs.d 2; have q3 := (blk_cell hs.d 3).trans rfl; have fq3 := blk_frozen hs.d 3; have q4 := (blk_cell hs.d 4).trans rfl; have fq4 := blk_frozen hs.d 4; have q5 := (blk_cell hs.d 5).trans rfl; have fq5 := blk_frozen hs.d 5; have q6 := (blk_cell hs.d 6).trans rfl; have fq6 := blk_frozen hs.d 6; have y0 := (blk_cell hs.z 0).trans rfl; have fy0 := blk_frozen hs.z 0; have y1 := (blk_cell hs.z 1).trans rfl; have fy1 := blk_frozen hs.z 1; have y2 := (blk_cell hs.z 2).trans rfl; have fy2 := blk_frozen hs.z 2; have y3 := (blk_cell hs.z 3).trans rfl; have fy3 := blk_frozen hs.z 3; have y4 := (blk_cell hs.z 4).trans rfl; have fy4 := blk_frozen hs.z 4; have y5 := (blk_cell hs.z 5).trans rfl; have fy5 := blk_frozen hs.z 5; have y6 := (blk_cell hs.z 6).trans rfl; have fy6 := blk_frozen hs.z 6; have hz2 := blk_lt hs.z; clear hb hs ho)
  all_goals
    go_wp2
    refine bodyPost_ret (results_ct rfl _ _ (w.heap.size + 2) 74 _ (0, 0) _ rfl (sp.set7 ((HS2.out.set 0 _ rfl).set 1 _ rfl).z) Try.underlying74 rfl (by kernel_rfl)) rfl ?_
    have hle_ : w.heap.size ≤ w.heap.size + 2 := by omega
    have hk_ : ∀ g, g ≤ w.heap.size + 2 → ∀ k_, w.heap.size + 2 < k_ → k_ ≠ g := fun g hg k_ hk => by omega
    exact ⟨_, rfl, Kd.R_mono (sp.far7 _ _ _ _ _ _ _ (Kd.R_far (p := ⟨w.heap.size, 1, none⟩) (Kd.R_far (p := ⟨w.heap.size, 0, none⟩) HO.out (hk_ _ hle_) _) (hk_ _ hle_) _) (hk_ _ (Nat.le_refl _))) (fun _ _ => trivial), sp.below7 _ _ _ _ _ _ _ ((HS2.out.set 0 _ rfl).set 1 _ rfl).b⟩
set_option maxHeartbeats 3200000 in
set_option maxRecDepth 100000 in
theorem sp.dec109_0 (A0 : Option Addr) (c0 n0 : Nat) (s0 : Int) (A1 : Option Addr) (c1 n1 : Nat) (s1 fuse keep : Int) (g1 g2 : Nat) (r : List Int) (w : World) (HR : ∀ W, Calls Try.prog 59 #[.agg #[.slice A0 n0 c0, .int .i64 s0, .slice A1 n1 c1, .int .i64 s1, .int .i64 fuse, .int .i64 keep, .bool false]] W fun e w' => e = .returned (.bool true) ∧ Below W.heap.size W w') (HM : ∀ W, Below w.heap.size w W → Calls Try.prog 109 #[.agg #[.slice A0 n0 c0, .int .i64 s0], .pointer (some ⟨g1, 0, none⟩)] W fun e w' => ∃ v0, e = .returned (.agg #[v0, .int .i64 s0]) ∧ Kd.R (Kd.int .u8) 5 w' W.heap.size (fun _ => True) v0 r ∧ Below W.heap.size W w') (hf : 0 < fuse) :
    Calls Try.prog 96 #[.agg #[.slice A0 n0 c0, .int .i64 s0, .slice A1 n1 c1, .int .i64 s1, .int .i64 fuse, .int .i64 keep, .bool false], .int .i64 0, .bool false, .agg #[.func (.func 109) #[] #[.pointer (some ⟨g1, 0, none⟩)], .func (.func 109) #[] #[.pointer (some ⟨g2, 0, none⟩)]]] w fun e w' => ∃ v0 : Value, e = .returned (.tuple #[.agg #[v0, .int .i64 s0, .slice A1 n1 c1, .int .i64 s1, .int .i64 (wrap64 (fuse - 1)), .int .i64 keep, .bool false], .int .i64 0]) ∧ Kd.R (Kd.int .u8) 5 w' w.heap.size (fun _ => True) v0 r ∧ Below w.heap.size w w' := by
  have HS := Aside0.mk (sp.St.start w (.slice A0 n0 c0) (.int .i64 s0) (.slice A1 n1 c1) (.int .i64 s1) (.int .i64 fuse) (.int .i64 keep) (.bool false) (.func (.func 109) #[] #[.pointer (some ⟨g1, 0, none⟩)]) (.func (.func 109) #[] #[.pointer (some ⟨g2, 0, none⟩)]))
  have HRR := Aside0.mk HR
  have HMM := Aside0.mk HM
  have b0 : (fuse == 0) = false := beq_eq_false_iff_ne.mpr (by omega)
  have b1 : decide (0 < fuse) = true := decide_eq_true (by omega)
  clear HR HM hf
  go_enter Try.func96, Try.ntmps96
  go_upto_region 1 with fail
  generalize ((w.alloc (.cells #[.slice A0 n0 c0, .int .i64 s0, .slice A1 n1 c1, .int .i64 s1, .int .i64 fuse, .int .i64 keep, .bool false] 74)).alloc (.cells #[.func (.func 109) #[] #[.pointer (some ⟨g1, 0, none⟩)], .func (.func 109) #[] #[.pointer (some ⟨g2, 0, none⟩)]] 130)).alloc (.cells #[.slice none 0 0, .int .i64 0, .slice none 0 0, .int .i64 0, .int .i64 0, .int .i64 0, .bool false] 74) = W2 at HS ⊢
  have cd0 := (blk_cell HS.out.d 0).trans rfl; have cd1 := (blk_cell HS.out.d 1).trans rfl; have cd2 := (blk_cell HS.out.d 2).trans rfl; have cd3 := (blk_cell HS.out.d 3).trans rfl; have cd4 := (blk_cell HS.out.d 4).trans rfl; have cd5 := (blk_cell HS.out.d 5).trans rfl; have cd6 := (blk_cell HS.out.d 6).trans rfl
  go_upto_region 14 with (go_at_call 59; refine Calls.mono (HRR.out _) ?_; rintro e w1 ⟨rfl, hb⟩; have hs := HS.out.below hb; have HS1 := Aside0.mk hs; have a0 := (blk_cell hs.d 0).trans rfl; have fa0 := blk_frozen hs.d 0; have a1 := (blk_cell hs.d 1).trans rfl; have fa1 := blk_frozen hs.d 1; have a2 := (blk_cell hs.d 2).trans rfl; have fa2 := blk_frozen hs.d 2; have a3 := (blk_cell hs.d 3).trans rfl; have fa3 := blk_frozen hs.d 3; have a4 := (blk_cell hs.d 4).trans rfl; have fa4 := blk_frozen hs.d 4; have a5 := (blk_cell hs.d 5).trans rfl; have fa5 := blk_frozen hs.d 5; have a6 := (blk_cell hs.d 6).trans rfl; have fa6 := blk_frozen hs.d 6; have m0 := (blk_cell hs.m 0).trans rfl; have fm0 := blk_frozen hs.m 0; have m1 := (blk_cell hs.m 1).trans rfl; have fm1 := blk_frozen hs.m 1; have z0 := (blk_cell hs.z 0).trans rfl; have fz0 := blk_frozen hs.z 0; have z1 := (blk_cell hs.z 1).trans rfl; have fz1 := blk_frozen hs.z 1; have z2 := (blk_cell hs.z 2).trans rfl; have fz2 := blk_frozen hs.z 2; have z3 := (blk_cell hs.z 3).trans rfl; have fz3 := blk_frozen hs.z 3; have z4 := (blk_cell hs.z 4).trans rfl; have fz4 := blk_frozen hs.z 4; have z5 := (blk_cell hs.z 5).trans rfl; have fz5 := blk_frozen hs.z 5; have z6 := (blk_cell hs.z 6).trans rfl; have fz6 := blk_frozen hs.z 6; have hz := blk_lt hs.z; clear hb hs)
  have HSX := Aside0.mk (HS1.out.set 4 (.int .i64 (wrap64 (fuse - 1))) rfl)
  generalize w1.setCell ⟨w.heap.size, 4, none⟩ (.int .i64 (wrap64 (fuse - 1))) = w3 at HSX ⊢
  clear a0 fa0 m0 fm0 a1 fa1 m1 fm1 a2 fa2 a3 fa3 a4 fa4 a5 fa5 a6 fa6 z0 fz0 z1 fz1 z2 fz2 z3 fz3 z4 fz4 z5 fz5 z6 fz6 hz HS1
  have p0 := (blk_cell HSX.out.d 0).trans rfl; have fp0 := blk_frozen HSX.out.d 0; have p1 := (blk_cell HSX.out.d 1).trans rfl; have fp1 := blk_frozen HSX.out.d 1; have p2 := (blk_cell HSX.out.d 2).trans rfl; have fp2 := blk_frozen HSX.out.d 2; have p3 := (blk_cell HSX.out.d 3).trans rfl; have fp3 := blk_frozen HSX.out.d 3; have p4 := (blk_cell HSX.out.d 4).trans rfl; have fp4 := blk_frozen HSX.out.d 4; have p5 := (blk_cell HSX.out.d 5).trans rfl; have fp5 := blk_frozen HSX.out.d 5; have p6 := (blk_cell HSX.out.d 6).trans rfl; have fp6 := blk_frozen HSX.out.d 6; have u0 := (blk_cell HSX.out.m 0).trans rfl; have fu0 := blk_frozen HSX.out.m 0; have u1 := (blk_cell HSX.out.m 1).trans rfl; have fu1 := blk_frozen HSX.out.m 1; have hzx := blk_lt HSX.out.z
  go_region_with (go_at_call 109; refine Calls.mono (HMM.out _ HSX.out.drew.b) ?_; rintro e w2 ⟨v0, rfl, ho, hb⟩; obtain ⟨Av, cv, rfl⟩ := Kd.R_slice ho; have HO := Aside0.mk (Kd.R_lower (Kd.R_mono (Kd.R_bound ho) (fun k_ hk => show w.heap.size + 2 < k_ from Nat.lt_of_lt_of_le (blk_lt HSX.out.drew.z) hk.2.1)) HSX.out.drew.b.size); have hs := HSX.out.drew.below hb; have HS2 := Aside0.mk hs; have q0 := (blk_cell hs.d 0).trans rfl; have fq0 := blk_frozen hs.d 0; have q1 := (blk_cell hs.d 1).trans rfl; have fq1 := blk_frozen hs.d 1; have q2 := (blk_cell hs.d 2).trans rfl; have fq2 := blk_frozen hs.d 2; have q3 := (blk_cell hs.d 3).trans rfl; have fq3 := blk_frozen hs.d 3; have q4 := (blk_cell hs.d 4).trans rfl; have fq4 := blk_frozen hs.d 4; have q5 := (blk_cell hs.d 5).trans rfl; have fq5 := blk_frozen hs.d 5; have q6 := (blk_cell hs.d 6).trans rfl; have fq6 := blk_frozen hs.d 6; have y0 := (blk_cell hs.z 0).trans rfl; have fy0 := blk_frozen hs.z 0; have y1 := (blk_cell hs.z 1).trans rfl; have fy1 := blk_frozen hs.z 1; have y2 := (blk_cell hs.z 2).trans rfl; have fy2 := blk_frozen hs.z 2; have y3 := (blk_cell hs.z 3).trans rfl; have fy3 := blk_frozen hs.z 3; have y4 := (blk_cell hs.z 4).trans rfl; have fy4 := blk_frozen hs.z 4; have y5 := (blk_cell hs.z 5).trans rfl; have fy5 := blk_frozen hs.z 5; have y6 := (blk_cell hs.z 6).trans rfl; have fy6 := blk_frozen hs.z 6; have hz2 := blk_lt hs.z; clear hb hs ho)
  all_goals
    go_wp2
    refine bodyPost_ret (results_ct rfl _ _ (w.heap.size + 2) 74 _ (0, 0) _ rfl (sp.set7 ((HS2.out.set 0 _ rfl).set 1 _ rfl).z) Try.underlying74 rfl (by kernel_rfl)) rfl ?_
    have hle_ : w.heap.size ≤ w.heap.size + 2 := by omega
    have hk_ : ∀ g, g ≤ w.heap.size + 2 → ∀ k_, w.heap.size + 2 < k_ → k_ ≠ g := fun g hg k_ hk => by omega
    exact ⟨_, rfl, Kd.R_mono (sp.far7 _ _ _ _ _ _ _ (Kd.R_far (p := ⟨w.heap.size, 1, none⟩) (Kd.R_far (p := ⟨w.heap.size, 0, none⟩) HO.out (hk_ _ hle_) _) (hk_ _ hle_) _) (hk_ _ (Nat.le_refl _))) (fun _ _ => trivial), sp.below7 _ _ _ _ _ _ _ ((HS2.out.set 0 _ rfl).set 1 _ rfl).b⟩
set_option maxHeartbeats 3200000 in
set_option maxRecDepth 100000 in
theorem sp.free109_1 (A0 : Option Addr) (c0 n0 : Nat) (s0 : Int) (A1 : Option Addr) (c1 n1 : Nat) (s1 fuse keep : Int) (g1 g2 : Nat) (r : List Int) (w : World) (HR : ∀ W, Calls Try.prog 59 #[.agg #[.slice A0 n0 c0, .int .i64 s0, .slice A1 n1 c1, .int .i64 s1, .int .i64 fuse, .int .i64 keep, .bool false]] W fun e w' => e = .returned (.bool true) ∧ Below W.heap.size W w') (HM : ∀ W, Below w.heap.size w W → Calls Try.prog 109 #[.agg #[.slice A1 n1 c1, .int .i64 s1], .pointer (some ⟨g1, 0, none⟩)] W fun e w' => ∃ v0, e = .returned (.agg #[v0, .int .i64 s1]) ∧ Kd.R (Kd.int .u8) 5 w' W.heap.size (fun _ => True) v0 r ∧ Below W.heap.size W w') (hf : fuse < 0) :
    Calls Try.prog 96 #[.agg #[.slice A0 n0 c0, .int .i64 s0, .slice A1 n1 c1, .int .i64 s1, .int .i64 fuse, .int .i64 keep, .bool false], .int .i64 1, .bool false, .agg #[.func (.func 109) #[] #[.pointer (some ⟨g1, 0, none⟩)], .func (.func 109) #[] #[.pointer (some ⟨g2, 0, none⟩)]]] w fun e w' => ∃ v0 : Value, e = .returned (.tuple #[.agg #[.slice A0 n0 c0, .int .i64 s0, v0, .int .i64 s1, .int .i64 fuse, .int .i64 keep, .bool false], .int .i64 0]) ∧ Kd.R (Kd.int .u8) 5 w' w.heap.size (fun _ => True) v0 r ∧ Below w.heap.size w w' := by
  have HS := Aside0.mk (sp.St.start w (.slice A0 n0 c0) (.int .i64 s0) (.slice A1 n1 c1) (.int .i64 s1) (.int .i64 fuse) (.int .i64 keep) (.bool false) (.func (.func 109) #[] #[.pointer (some ⟨g1, 0, none⟩)]) (.func (.func 109) #[] #[.pointer (some ⟨g2, 0, none⟩)]))
  have HRR := Aside0.mk HR
  have HMM := Aside0.mk HM
  have b0 : (fuse == 0) = false := beq_eq_false_iff_ne.mpr (by omega)
  have b1 : decide (0 < fuse) = false := decide_eq_false (by omega)
  clear HR HM hf
  go_enter Try.func96, Try.ntmps96
  go_upto_region 1 with fail
  generalize ((w.alloc (.cells #[.slice A0 n0 c0, .int .i64 s0, .slice A1 n1 c1, .int .i64 s1, .int .i64 fuse, .int .i64 keep, .bool false] 74)).alloc (.cells #[.func (.func 109) #[] #[.pointer (some ⟨g1, 0, none⟩)], .func (.func 109) #[] #[.pointer (some ⟨g2, 0, none⟩)]] 130)).alloc (.cells #[.slice none 0 0, .int .i64 0, .slice none 0 0, .int .i64 0, .int .i64 0, .int .i64 0, .bool false] 74) = W2 at HS ⊢
  have cd0 := (blk_cell HS.out.d 0).trans rfl; have cd1 := (blk_cell HS.out.d 1).trans rfl; have cd2 := (blk_cell HS.out.d 2).trans rfl; have cd3 := (blk_cell HS.out.d 3).trans rfl; have cd4 := (blk_cell HS.out.d 4).trans rfl; have cd5 := (blk_cell HS.out.d 5).trans rfl; have cd6 := (blk_cell HS.out.d 6).trans rfl
  go_upto_region 14 with (go_at_call 59; refine Calls.mono (HRR.out _) ?_; rintro e w1 ⟨rfl, hb⟩; have hs := HS.out.below hb; have HS1 := Aside0.mk hs; have a0 := (blk_cell hs.d 0).trans rfl; have fa0 := blk_frozen hs.d 0; have a1 := (blk_cell hs.d 1).trans rfl; have fa1 := blk_frozen hs.d 1; have a2 := (blk_cell hs.d 2).trans rfl; have fa2 := blk_frozen hs.d 2; have a3 := (blk_cell hs.d 3).trans rfl; have fa3 := blk_frozen hs.d 3; have a4 := (blk_cell hs.d 4).trans rfl; have fa4 := blk_frozen hs.d 4; have a5 := (blk_cell hs.d 5).trans rfl; have fa5 := blk_frozen hs.d 5; have a6 := (blk_cell hs.d 6).trans rfl; have fa6 := blk_frozen hs.d 6; have m0 := (blk_cell hs.m 0).trans rfl; have fm0 := blk_frozen hs.m 0; have m1 := (blk_cell hs.m 1).trans rfl; have fm1 := blk_frozen hs.m 1; have z0 := (blk_cell hs.z 0).trans rfl; have fz0 := blk_frozen hs.z 0; have z1 := (blk_cell hs.z 1).trans rfl; have fz1 := blk_frozen hs.z 1; have z2 := (blk_cell hs.z 2).trans rfl; have fz2 := blk_frozen hs.z 2; have z3 := (blk_cell hs.z 3).trans rfl; have fz3 := blk_frozen hs.z 3; have z4 := (blk_cell hs.z 4).trans rfl; have fz4 := blk_frozen hs.z 4; have z5 := (blk_cell hs.z 5).trans rfl; have fz5 := blk_frozen hs.z 5; have z6 := (blk_cell hs.z 6).trans rfl; have fz6 := blk_frozen hs.z 6; have hz := blk_lt hs.z; clear hb hs)
  have HSX := HS1
  clear HS1 z0 fz0 z1 fz1 z2 fz2 z3 fz3 z4 fz4 z5 fz5 z6 fz6
  go_region_with (go_at_call 109; refine Calls.mono (HMM.out _ HSX.out.drew.b) ?_; rintro e w2 ⟨v0, rfl, ho, hb⟩; obtain ⟨Av, cv, rfl⟩ := Kd.R_slice ho; have HO := Aside0.mk (Kd.R_lower (Kd.R_mono (Kd.R_bound ho) (fun k_ hk => show w.heap.size + 2 < k_ from Nat.lt_of_lt_of_le (blk_lt HSX.out.drew.z) hk.2.1)) HSX.out.drew.b.size); have hs := HSX.out.drew.below hb; have HS2 := Aside0.mk hs; have q0 := (blk_cell hs.d 0).trans rfl; have fq0 := blk_frozen hs.d 0; have q1 := (blk_cell hs.d 1).trans rfl; have fq1 := blk_frozen hs.d 1; have q2 := (blk_cell hs.d 2).trans rfl; have fq2 := blk_frozen hs.d 2; have q3 := (blk_cell hs.d 3).trans rfl; have fq3 := blk_frozen hs.d 3; have q4 := (blk_cell hs.d 4).trans rfl; have fq4 := blk_frozen hs.d 4; have q5 := (blk_cell hs.d 5).trans rfl; have fq5 := blk_frozen hs.d 5; have q6 := (blk_cell hs.d 6).trans rfl; have fq6 := blk_frozen hs.d 6; have y0 := (blk_cell hs.z 0).trans rfl; have fy0 := blk_frozen hs.z 0; have y1 := (blk_cell hs.z 1).trans rfl; have fy1 := blk_frozen hs.z 1; have y2 := (blk_cell hs.z 2).trans rfl; have fy2 := blk_frozen hs.z 2; have y3 := (blk_cell hs.z 3).trans rfl; have fy3 := blk_frozen hs.z 3; have y4 := (blk_cell hs.z 4).trans rfl; have fy4 := blk_frozen hs.z 4; have y5 := (blk_cell hs.z 5).trans rfl; have fy5 := blk_frozen hs.z 5; have y6 := (blk_cell hs.z 6).trans rfl; have fy6 := blk_frozen hs.z 6; have hz2 := blk_lt hs.z; clear hb hs ho)
  all_goals
    go_wp2
    refine bodyPost_ret (results_ct rfl _ _ (w.heap.size + 2) 74 _ (0, 0) _ rfl (sp.set7 ((HS2.out.set 2 _ rfl).set 3 _ rfl).z) Try.underlying74 rfl (by kernel_rfl)) rfl ?_
    have hle_ : w.heap.size ≤ w.heap.size + 2 := by omega
    have hk_ : ∀ g, g ≤ w.heap.size + 2 → ∀ k_, w.heap.size + 2 < k_ → k_ ≠ g := fun g hg k_ hk => by omega
    exact ⟨_, rfl, Kd.R_mono (sp.far7 _ _ _ _ _ _ _ (Kd.R_far (p := ⟨w.heap.size, 3, none⟩) (Kd.R_far (p := ⟨w.heap.size, 2, none⟩) HO.out (hk_ _ hle_) _) (hk_ _ hle_) _) (hk_ _ (Nat.le_refl _))) (fun _ _ => trivial), sp.below7 _ _ _ _ _ _ _ ((HS2.out.set 2 _ rfl).set 3 _ rfl).b⟩
set_option maxHeartbeats 3200000 in
set_option maxRecDepth 100000 in
theorem sp.dec109_1 (A0 : Option Addr) (c0 n0 : Nat) (s0 : Int) (A1 : Option Addr) (c1 n1 : Nat) (s1 fuse keep : Int) (g1 g2 : Nat) (r : List Int) (w : World) (HR : ∀ W, Calls Try.prog 59 #[.agg #[.slice A0 n0 c0, .int .i64 s0, .slice A1 n1 c1, .int .i64 s1, .int .i64 fuse, .int .i64 keep, .bool false]] W fun e w' => e = .returned (.bool true) ∧ Below W.heap.size W w') (HM : ∀ W, Below w.heap.size w W → Calls Try.prog 109 #[.agg #[.slice A1 n1 c1, .int .i64 s1], .pointer (some ⟨g1, 0, none⟩)] W fun e w' => ∃ v0, e = .returned (.agg #[v0, .int .i64 s1]) ∧ Kd.R (Kd.int .u8) 5 w' W.heap.size (fun _ => True) v0 r ∧ Below W.heap.size W w') (hf : 0 < fuse) :
    Calls Try.prog 96 #[.agg #[.slice A0 n0 c0, .int .i64 s0, .slice A1 n1 c1, .int .i64 s1, .int .i64 fuse, .int .i64 keep, .bool false], .int .i64 1, .bool false, .agg #[.func (.func 109) #[] #[.pointer (some ⟨g1, 0, none⟩)], .func (.func 109) #[] #[.pointer (some ⟨g2, 0, none⟩)]]] w fun e w' => ∃ v0 : Value, e = .returned (.tuple #[.agg #[.slice A0 n0 c0, .int .i64 s0, v0, .int .i64 s1, .int .i64 (wrap64 (fuse - 1)), .int .i64 keep, .bool false], .int .i64 0]) ∧ Kd.R (Kd.int .u8) 5 w' w.heap.size (fun _ => True) v0 r ∧ Below w.heap.size w w' := by
  have HS := Aside0.mk (sp.St.start w (.slice A0 n0 c0) (.int .i64 s0) (.slice A1 n1 c1) (.int .i64 s1) (.int .i64 fuse) (.int .i64 keep) (.bool false) (.func (.func 109) #[] #[.pointer (some ⟨g1, 0, none⟩)]) (.func (.func 109) #[] #[.pointer (some ⟨g2, 0, none⟩)]))
  have HRR := Aside0.mk HR
  have HMM := Aside0.mk HM
  have b0 : (fuse == 0) = false := beq_eq_false_iff_ne.mpr (by omega)
  have b1 : decide (0 < fuse) = true := decide_eq_true (by omega)
  clear HR HM hf
  go_enter Try.func96, Try.ntmps96
  go_upto_region 1 with fail
  generalize ((w.alloc (.cells #[.slice A0 n0 c0, .int .i64 s0, .slice A1 n1 c1, .int .i64 s1, .int .i64 fuse, .int .i64 keep, .bool false] 74)).alloc (.cells #[.func (.func 109) #[] #[.pointer (some ⟨g1, 0, none⟩)], .func (.func 109) #[] #[.pointer (some ⟨g2, 0, none⟩)]] 130)).alloc (.cells #[.slice none 0 0, .int .i64 0, .slice none 0 0, .int .i64 0, .int .i64 0, .int .i64 0, .bool false] 74) = W2 at HS ⊢
  have cd0 := (blk_cell HS.out.d 0).trans rfl; have cd1 := (blk_cell HS.out.d 1).trans rfl; have cd2 := (blk_cell HS.out.d 2).trans rfl; have cd3 := (blk_cell HS.out.d 3).trans rfl; have cd4 := (blk_cell HS.out.d 4).trans rfl; have cd5 := (blk_cell HS.out.d 5).trans rfl; have cd6 := (blk_cell HS.out.d 6).trans rfl
  go_upto_region 14 with (go_at_call 59; refine Calls.mono (HRR.out _) ?_; rintro e w1 ⟨rfl, hb⟩; have hs := HS.out.below hb; have HS1 := Aside0.mk hs; have a0 := (blk_cell hs.d 0).trans rfl; have fa0 := blk_frozen hs.d 0; have a1 := (blk_cell hs.d 1).trans rfl; have fa1 := blk_frozen hs.d 1; have a2 := (blk_cell hs.d 2).trans rfl; have fa2 := blk_frozen hs.d 2; have a3 := (blk_cell hs.d 3).trans rfl; have fa3 := blk_frozen hs.d 3; have a4 := (blk_cell hs.d 4).trans rfl; have fa4 := blk_frozen hs.d 4; have a5 := (blk_cell hs.d 5).trans rfl; have fa5 := blk_frozen hs.d 5; have a6 := (blk_cell hs.d 6).trans rfl; have fa6 := blk_frozen hs.d 6; have m0 := (blk_cell hs.m 0).trans rfl; have fm0 := blk_frozen hs.m 0; have m1 := (blk_cell hs.m 1).trans rfl; have fm1 := blk_frozen hs.m 1; have z0 := (blk_cell hs.z 0).trans rfl; have fz0 := blk_frozen hs.z 0; have z1 := (blk_cell hs.z 1).trans rfl; have fz1 := blk_frozen hs.z 1; have z2 := (blk_cell hs.z 2).trans rfl; have fz2 := blk_frozen hs.z 2; have z3 := (blk_cell hs.z 3).trans rfl; have fz3 := blk_frozen hs.z 3; have z4 := (blk_cell hs.z 4).trans rfl; have fz4 := blk_frozen hs.z 4; have z5 := (blk_cell hs.z 5).trans rfl; have fz5 := blk_frozen hs.z 5; have z6 := (blk_cell hs.z 6).trans rfl; have fz6 := blk_frozen hs.z 6; have hz := blk_lt hs.z; clear hb hs)
  have HSX := Aside0.mk (HS1.out.set 4 (.int .i64 (wrap64 (fuse - 1))) rfl)
  generalize w1.setCell ⟨w.heap.size, 4, none⟩ (.int .i64 (wrap64 (fuse - 1))) = w3 at HSX ⊢
  clear a0 fa0 m0 fm0 a1 fa1 m1 fm1 a2 fa2 a3 fa3 a4 fa4 a5 fa5 a6 fa6 z0 fz0 z1 fz1 z2 fz2 z3 fz3 z4 fz4 z5 fz5 z6 fz6 hz HS1
  have p0 := (blk_cell HSX.out.d 0).trans rfl; have fp0 := blk_frozen HSX.out.d 0; have p1 := (blk_cell HSX.out.d 1).trans rfl; have fp1 := blk_frozen HSX.out.d 1; have p2 := (blk_cell HSX.out.d 2).trans rfl; have fp2 := blk_frozen HSX.out.d 2; have p3 := (blk_cell HSX.out.d 3).trans rfl; have fp3 := blk_frozen HSX.out.d 3; have p4 := (blk_cell HSX.out.d 4).trans rfl; have fp4 := blk_frozen HSX.out.d 4; have p5 := (blk_cell HSX.out.d 5).trans rfl; have fp5 := blk_frozen HSX.out.d 5; have p6 := (blk_cell HSX.out.d 6).trans rfl; have fp6 := blk_frozen HSX.out.d 6; have u0 := (blk_cell HSX.out.m 0).trans rfl; have fu0 := blk_frozen HSX.out.m 0; have u1 := (blk_cell HSX.out.m 1).trans rfl; have fu1 := blk_frozen HSX.out.m 1; have hzx := blk_lt HSX.out.z
  go_region_with (go_at_call 109; refine Calls.mono (HMM.out _ HSX.out.drew.b) ?_; rintro e w2 ⟨v0, rfl, ho, hb⟩; obtain ⟨Av, cv, rfl⟩ := Kd.R_slice ho; have HO := Aside0.mk (Kd.R_lower (Kd.R_mono (Kd.R_bound ho) (fun k_ hk => show w.heap.size + 2 < k_ from Nat.lt_of_lt_of_le (blk_lt HSX.out.drew.z) hk.2.1)) HSX.out.drew.b.size); have hs := HSX.out.drew.below hb; have HS2 := Aside0.mk hs; have q0 := (blk_cell hs.d 0).trans rfl; have fq0 := blk_frozen hs.d 0; have q1 := (blk_cell hs.d 1).trans rfl; have fq1 := blk_frozen hs.d 1; have q2 := (blk_cell hs.d 2).trans rfl; have fq2 := blk_frozen hs.d 2; have q3 := (blk_cell hs.d 3).trans rfl; have fq3 := blk_frozen hs.d 3; have q4 := (blk_cell hs.d 4).trans rfl; have fq4 := blk_frozen hs.d 4; have q5 := (blk_cell hs.d 5).trans rfl; have fq5 := blk_frozen hs.d 5; have q6 := (blk_cell hs.d 6).trans rfl; have fq6 := blk_frozen hs.d 6; have y0 := (blk_cell hs.z 0).trans rfl; have fy0 := blk_frozen hs.z 0; have y1 := (blk_cell hs.z 1).trans rfl; have fy1 := blk_frozen hs.z 1; have y2 := (blk_cell hs.z 2).trans rfl; have fy2 := blk_frozen hs.z 2; have y3 := (blk_cell hs.z 3).trans rfl; have fy3 := blk_frozen hs.z 3; have y4 := (blk_cell hs.z 4).trans rfl; have fy4 := blk_frozen hs.z 4; have y5 := (blk_cell hs.z 5).trans rfl; have fy5 := blk_frozen hs.z 5; have y6 := (blk_cell hs.z 6).trans rfl; have fy6 := blk_frozen hs.z 6; have hz2 := blk_lt hs.z; clear hb hs ho)
  all_goals
    go_wp2
    refine bodyPost_ret (results_ct rfl _ _ (w.heap.size + 2) 74 _ (0, 0) _ rfl (sp.set7 ((HS2.out.set 2 _ rfl).set 3 _ rfl).z) Try.underlying74 rfl (by kernel_rfl)) rfl ?_
    have hle_ : w.heap.size ≤ w.heap.size + 2 := by omega
    have hk_ : ∀ g, g ≤ w.heap.size + 2 → ∀ k_, w.heap.size + 2 < k_ → k_ ≠ g := fun g hg k_ hk => by omega
    exact ⟨_, rfl, Kd.R_mono (sp.far7 _ _ _ _ _ _ _ (Kd.R_far (p := ⟨w.heap.size, 3, none⟩) (Kd.R_far (p := ⟨w.heap.size, 2, none⟩) HO.out (hk_ _ hle_) _) (hk_ _ hle_) _) (hk_ _ (Nat.le_refl _))) (fun _ _ => trivial), sp.below7 _ _ _ _ _ _ _ ((HS2.out.set 2 _ rfl).set 3 _ rfl).b⟩
set_option maxHeartbeats 3200000 in
set_option maxRecDepth 100000 in
theorem sp.burn99_0 (A0 : Option Addr) (c0 : Nat) (l0 : List Int) (s0 : Int) (A1 : Option Addr) (c1 : Nat) (l1 : List Int) (s1 keep : Int) (F1 : Value) (o1 : F1.oneCell' = true) (r1 : List Int) (r2 : Int) (r3 : List Int) (r4 r5 r6 : Int) (r7 : Bool) (w : World) (hr0 : Kd.C (Kd.int .u8) w A0 l0.length l0) (hc0 : l0.length ≤ c0) (hr1 : Kd.C (Kd.int .u8) w A1 l1.length l1) (hc1 : l1.length ≤ c1)
    (HR : ∀ W, Calls Try.prog 59 #[.agg #[.slice A0 l0.length c0, .int .i64 s0, .slice A1 l1.length c1, .int .i64 s1, .int .i64 0, .int .i64 keep, .bool false]] W fun e w' => e = .returned (.bool true) ∧ Below W.heap.size W w') (HM : ∀ W, Calls Try.prog 99 #[.agg #[.slice A0 l0.length c0, .int .i64 s0]] W fun e w' => e = .returned (.agg #[.slice A0 l0.length c0, .int .i64 s0]) ∧ Below W.heap.size W w') (h : disk_lost.f l0 s0 l1 s1 0 keep false keep = some (r1, r2, r3, r4, r5, r6, r7)) :
    Calls Try.prog 96 #[.agg #[.slice A0 l0.length c0, .int .i64 s0, .slice A1 l1.length c1, .int .i64 s1, .int .i64 0, .int .i64 keep, .bool false], .int .i64 0, .bool false, .agg #[F1, .func (.func 99) #[] #[]]] w fun e w' => ∃ v0 v2 : Value, e = .returned (.tuple #[.agg #[v0, .int .i64 r2, v2, .int .i64 r4, .int .i64 r5, .int .i64 r6, .bool r7], .int .i64 14]) ∧ Kd.R (Kd.int .u8) 5 w' w.heap.size (fun _ => True) v0 r1 ∧ Kd.R (Kd.int .u8) 5 w' w.heap.size (fun _ => True) v2 r3 ∧ Below w.heap.size w w' := by
  have HS := Aside0.mk (sp.St.start w (.slice A0 l0.length c0) (.int .i64 s0) (.slice A1 l1.length c1) (.int .i64 s1) (.int .i64 0) (.int .i64 keep) (.bool false) (F1) (.func (.func 99) #[] #[]))
  have HRR := Aside0.mk HR
  have HMM := Aside0.mk HM
  have HH := Aside0.mk h
  have HR0 := Aside0.mk hr0
  have HR1 := Aside0.mk hr1
  have HC0 := Aside0.mk hc0
  have HC1 := Aside0.mk hc1
  clear HR HM h hr0 hr1 hc0 hc1
  go_enter Try.func96, Try.ntmps96
  go_upto_region 1 with fail
  generalize ((w.alloc (.cells #[.slice A0 l0.length c0, .int .i64 s0, .slice A1 l1.length c1, .int .i64 s1, .int .i64 0, .int .i64 keep, .bool false] 74)).alloc (.cells #[F1, .func (.func 99) #[] #[]] 130)).alloc (.cells #[.slice none 0 0, .int .i64 0, .slice none 0 0, .int .i64 0, .int .i64 0, .int .i64 0, .bool false] 74) = W2 at HS ⊢
  have cd0 := (blk_cell HS.out.d 0).trans rfl; have cd1 := (blk_cell HS.out.d 1).trans rfl; have cd2 := (blk_cell HS.out.d 2).trans rfl; have cd3 := (blk_cell HS.out.d 3).trans rfl; have cd4 := (blk_cell HS.out.d 4).trans rfl; have cd5 := (blk_cell HS.out.d 5).trans rfl; have cd6 := (blk_cell HS.out.d 6).trans rfl
  go_upto_region 11 with (go_at_call 59; refine Calls.mono (HRR.out _) ?_; rintro e w1 ⟨rfl, hb⟩; have hs := HS.out.below hb; have HS1 := Aside0.mk hs; have a0 := (blk_cell hs.d 0).trans rfl; have fa0 := blk_frozen hs.d 0; have a1 := (blk_cell hs.d 1).trans rfl; have fa1 := blk_frozen hs.d 1; have a2 := (blk_cell hs.d 2).trans rfl; have fa2 := blk_frozen hs.d 2; have a3 := (blk_cell hs.d 3).trans rfl; have fa3 := blk_frozen hs.d 3; have a4 := (blk_cell hs.d 4).trans rfl; have fa4 := blk_frozen hs.d 4; have a5 := (blk_cell hs.d 5).trans rfl; have fa5 := blk_frozen hs.d 5; have a6 := (blk_cell hs.d 6).trans rfl; have fa6 := blk_frozen hs.d 6; have m0 := (blk_cell hs.m 0).trans rfl; have fm0 := blk_frozen hs.m 0; have m1 := (blk_cell hs.m 1).trans rfl; have fm1 := blk_frozen hs.m 1; have z0 := (blk_cell hs.z 0).trans rfl; have fz0 := blk_frozen hs.z 0; have z1 := (blk_cell hs.z 1).trans rfl; have fz1 := blk_frozen hs.z 1; have z2 := (blk_cell hs.z 2).trans rfl; have fz2 := blk_frozen hs.z 2; have z3 := (blk_cell hs.z 3).trans rfl; have fz3 := blk_frozen hs.z 3; have z4 := (blk_cell hs.z 4).trans rfl; have fz4 := blk_frozen hs.z 4; have z5 := (blk_cell hs.z 5).trans rfl; have fz5 := blk_frozen hs.z 5; have z6 := (blk_cell hs.z 6).trans rfl; have fz6 := blk_frozen hs.z 6; have hz := blk_lt hs.z; clear hb hs)
  have HSX := HS1
  clear HS1 z0 fz0 z1 fz1 z2 fz2 z3 fz3 z4 fz4 z5 fz5 z6 fz6
  go_region_with (go_at_call 99; refine Calls.mono (HMM.out _) ?_; rintro e w2 ⟨rfl, hb⟩; have hs := HSX.out.drew.below hb; have HS2 := Aside0.mk hs; have q0 := (blk_cell hs.d 0).trans rfl; have fq0 := blk_frozen hs.d 0; have q1 := (blk_cell hs.d 1).trans rfl; have fq1 := blk_frozen hs.d 1; have q2 := (blk_cell hs.d 2).trans rfl; have fq2 := blk_frozen hs.d 2; have q3 := (blk_cell hs.d 3).trans rfl; have fq3 := blk_frozen hs.d 3; have q4 := (blk_cell hs.d 4).trans rfl; have fq4 := blk_frozen hs.d 4; have q5 := (blk_cell hs.d 5).trans rfl; have fq5 := blk_frozen hs.d 5; have q6 := (blk_cell hs.d 6).trans rfl; have fq6 := blk_frozen hs.d 6; have y0 := (blk_cell hs.z 0).trans rfl; have fy0 := blk_frozen hs.z 0; have y1 := (blk_cell hs.z 1).trans rfl; have fy1 := blk_frozen hs.z 1; have y2 := (blk_cell hs.z 2).trans rfl; have fy2 := blk_frozen hs.z 2; have y3 := (blk_cell hs.z 3).trans rfl; have fy3 := blk_frozen hs.z 3; have y4 := (blk_cell hs.z 4).trans rfl; have fy4 := blk_frozen hs.z 4; have y5 := (blk_cell hs.z 5).trans rfl; have fy5 := blk_frozen hs.z 5; have y6 := (blk_cell hs.z 6).trans rfl; have fy6 := blk_frozen hs.z 6; have hz2 := blk_lt hs.z; clear hb hs)
  all_goals
    have hle_ : w.heap.size ≤ w.heap.size + 2 := by omega
    have hk_ : ∀ g, g ≤ w.heap.size + 2 → ∀ k_, w.heap.size + 2 < k_ → k_ ≠ g := fun g hg k_ hk => by omega
    go_wp2_with (go_at_call 100; refine Calls.mono (disk_lost.calls A0 c0 l0 s0 A1 c1 l1 s1 0 keep false keep r1 r2 r3 r4 r5 r6 r7 _ (Kd.C_below HR0.out ((HS2.out.set 0 _ rfl).set 1 _ rfl).b) HC0.out (Kd.C_below HR1.out ((HS2.out.set 0 _ rfl).set 1 _ rfl).b) HC1.out HH.out) ?_; rintro e w6 ⟨v0, v2, rfl, ho0, ho2, hb⟩; obtain ⟨Bv, dv, rfl⟩ := Kd.R_slice ho0; obtain ⟨Cv, ev, rfl⟩ := Kd.R_slice ho2; have hs6 := ((HS2.out.set 0 _ rfl).set 1 _ rfl).below hb; have HS6 := Aside0.mk hs6; have HO0 := Aside0.mk (Kd.R_lower (Kd.R_mono (Kd.R_bound ho0) (fun k_ hk => show w.heap.size + 2 < k_ from Nat.lt_of_lt_of_le (blk_lt ((HS2.out.set 0 _ rfl).set 1 _ rfl).z) hk.2.1)) ((HS2.out.set 0 _ rfl).set 1 _ rfl).b.size); have HO2 := Aside0.mk (Kd.R_lower (Kd.R_mono (Kd.R_bound ho2) (fun k_ hk => show w.heap.size + 2 < k_ from Nat.lt_of_lt_of_le (blk_lt ((HS2.out.set 0 _ rfl).set 1 _ rfl).z) hk.2.1)) ((HS2.out.set 0 _ rfl).set 1 _ rfl).b.size); have y0 := (blk_cell hs6.z 0).trans rfl; have fy0 := blk_frozen hs6.z 0; have y1 := (blk_cell hs6.z 1).trans rfl; have fy1 := blk_frozen hs6.z 1; have y2 := (blk_cell hs6.z 2).trans rfl; have fy2 := blk_frozen hs6.z 2; have y3 := (blk_cell hs6.z 3).trans rfl; have fy3 := blk_frozen hs6.z 3; have y4 := (blk_cell hs6.z 4).trans rfl; have fy4 := blk_frozen hs6.z 4; have y5 := (blk_cell hs6.z 5).trans rfl; have fy5 := blk_frozen hs6.z 5; have y6 := (blk_cell hs6.z 6).trans rfl; have fy6 := blk_frozen hs6.z 6; have hz6 := blk_lt hs6.z; clear ho0 ho2 hb hs6)
    refine bodyPost_ret (results_ct rfl _ _ (w.heap.size + 2) 74 _ (0, 0) _ rfl (sp.set7 HS6.out.z) Try.underlying74 rfl (by kernel_rfl)) rfl ?_
    exact ⟨_, _, rfl, Kd.R_mono (sp.far7 _ _ _ _ _ _ _ HO0.out (hk_ _ (Nat.le_refl _))) (fun _ _ => trivial), Kd.R_mono (sp.far7 _ _ _ _ _ _ _ HO2.out (hk_ _ (Nat.le_refl _))) (fun _ _ => trivial), sp.below7 _ _ _ _ _ _ _ HS6.out.b⟩
set_option maxHeartbeats 3200000 in
set_option maxRecDepth 100000 in
theorem sp.burn99_1 (A0 : Option Addr) (c0 : Nat) (l0 : List Int) (s0 : Int) (A1 : Option Addr) (c1 : Nat) (l1 : List Int) (s1 keep : Int) (F1 : Value) (o1 : F1.oneCell' = true) (r1 : List Int) (r2 : Int) (r3 : List Int) (r4 r5 r6 : Int) (r7 : Bool) (w : World) (hr0 : Kd.C (Kd.int .u8) w A0 l0.length l0) (hc0 : l0.length ≤ c0) (hr1 : Kd.C (Kd.int .u8) w A1 l1.length l1) (hc1 : l1.length ≤ c1)
    (HR : ∀ W, Calls Try.prog 59 #[.agg #[.slice A0 l0.length c0, .int .i64 s0, .slice A1 l1.length c1, .int .i64 s1, .int .i64 0, .int .i64 keep, .bool false]] W fun e w' => e = .returned (.bool true) ∧ Below W.heap.size W w') (HM : ∀ W, Calls Try.prog 99 #[.agg #[.slice A1 l1.length c1, .int .i64 s1]] W fun e w' => e = .returned (.agg #[.slice A1 l1.length c1, .int .i64 s1]) ∧ Below W.heap.size W w') (h : disk_lost.f l0 s0 l1 s1 0 keep false keep = some (r1, r2, r3, r4, r5, r6, r7)) :
    Calls Try.prog 96 #[.agg #[.slice A0 l0.length c0, .int .i64 s0, .slice A1 l1.length c1, .int .i64 s1, .int .i64 0, .int .i64 keep, .bool false], .int .i64 1, .bool false, .agg #[F1, .func (.func 99) #[] #[]]] w fun e w' => ∃ v0 v2 : Value, e = .returned (.tuple #[.agg #[v0, .int .i64 r2, v2, .int .i64 r4, .int .i64 r5, .int .i64 r6, .bool r7], .int .i64 14]) ∧ Kd.R (Kd.int .u8) 5 w' w.heap.size (fun _ => True) v0 r1 ∧ Kd.R (Kd.int .u8) 5 w' w.heap.size (fun _ => True) v2 r3 ∧ Below w.heap.size w w' := by
  have HS := Aside0.mk (sp.St.start w (.slice A0 l0.length c0) (.int .i64 s0) (.slice A1 l1.length c1) (.int .i64 s1) (.int .i64 0) (.int .i64 keep) (.bool false) (F1) (.func (.func 99) #[] #[]))
  have HRR := Aside0.mk HR
  have HMM := Aside0.mk HM
  have HH := Aside0.mk h
  have HR0 := Aside0.mk hr0
  have HR1 := Aside0.mk hr1
  have HC0 := Aside0.mk hc0
  have HC1 := Aside0.mk hc1
  clear HR HM h hr0 hr1 hc0 hc1
  go_enter Try.func96, Try.ntmps96
  go_upto_region 1 with fail
  generalize ((w.alloc (.cells #[.slice A0 l0.length c0, .int .i64 s0, .slice A1 l1.length c1, .int .i64 s1, .int .i64 0, .int .i64 keep, .bool false] 74)).alloc (.cells #[F1, .func (.func 99) #[] #[]] 130)).alloc (.cells #[.slice none 0 0, .int .i64 0, .slice none 0 0, .int .i64 0, .int .i64 0, .int .i64 0, .bool false] 74) = W2 at HS ⊢
  have cd0 := (blk_cell HS.out.d 0).trans rfl; have cd1 := (blk_cell HS.out.d 1).trans rfl; have cd2 := (blk_cell HS.out.d 2).trans rfl; have cd3 := (blk_cell HS.out.d 3).trans rfl; have cd4 := (blk_cell HS.out.d 4).trans rfl; have cd5 := (blk_cell HS.out.d 5).trans rfl; have cd6 := (blk_cell HS.out.d 6).trans rfl
  go_upto_region 11 with (go_at_call 59; refine Calls.mono (HRR.out _) ?_; rintro e w1 ⟨rfl, hb⟩; have hs := HS.out.below hb; have HS1 := Aside0.mk hs; have a0 := (blk_cell hs.d 0).trans rfl; have fa0 := blk_frozen hs.d 0; have a1 := (blk_cell hs.d 1).trans rfl; have fa1 := blk_frozen hs.d 1; have a2 := (blk_cell hs.d 2).trans rfl; have fa2 := blk_frozen hs.d 2; have a3 := (blk_cell hs.d 3).trans rfl; have fa3 := blk_frozen hs.d 3; have a4 := (blk_cell hs.d 4).trans rfl; have fa4 := blk_frozen hs.d 4; have a5 := (blk_cell hs.d 5).trans rfl; have fa5 := blk_frozen hs.d 5; have a6 := (blk_cell hs.d 6).trans rfl; have fa6 := blk_frozen hs.d 6; have m0 := (blk_cell hs.m 0).trans rfl; have fm0 := blk_frozen hs.m 0; have m1 := (blk_cell hs.m 1).trans rfl; have fm1 := blk_frozen hs.m 1; have z0 := (blk_cell hs.z 0).trans rfl; have fz0 := blk_frozen hs.z 0; have z1 := (blk_cell hs.z 1).trans rfl; have fz1 := blk_frozen hs.z 1; have z2 := (blk_cell hs.z 2).trans rfl; have fz2 := blk_frozen hs.z 2; have z3 := (blk_cell hs.z 3).trans rfl; have fz3 := blk_frozen hs.z 3; have z4 := (blk_cell hs.z 4).trans rfl; have fz4 := blk_frozen hs.z 4; have z5 := (blk_cell hs.z 5).trans rfl; have fz5 := blk_frozen hs.z 5; have z6 := (blk_cell hs.z 6).trans rfl; have fz6 := blk_frozen hs.z 6; have hz := blk_lt hs.z; clear hb hs)
  have HSX := HS1
  clear HS1 z0 fz0 z1 fz1 z2 fz2 z3 fz3 z4 fz4 z5 fz5 z6 fz6
  go_region_with (go_at_call 99; refine Calls.mono (HMM.out _) ?_; rintro e w2 ⟨rfl, hb⟩; have hs := HSX.out.drew.below hb; have HS2 := Aside0.mk hs; have q0 := (blk_cell hs.d 0).trans rfl; have fq0 := blk_frozen hs.d 0; have q1 := (blk_cell hs.d 1).trans rfl; have fq1 := blk_frozen hs.d 1; have q2 := (blk_cell hs.d 2).trans rfl; have fq2 := blk_frozen hs.d 2; have q3 := (blk_cell hs.d 3).trans rfl; have fq3 := blk_frozen hs.d 3; have q4 := (blk_cell hs.d 4).trans rfl; have fq4 := blk_frozen hs.d 4; have q5 := (blk_cell hs.d 5).trans rfl; have fq5 := blk_frozen hs.d 5; have q6 := (blk_cell hs.d 6).trans rfl; have fq6 := blk_frozen hs.d 6; have y0 := (blk_cell hs.z 0).trans rfl; have fy0 := blk_frozen hs.z 0; have y1 := (blk_cell hs.z 1).trans rfl; have fy1 := blk_frozen hs.z 1; have y2 := (blk_cell hs.z 2).trans rfl; have fy2 := blk_frozen hs.z 2; have y3 := (blk_cell hs.z 3).trans rfl; have fy3 := blk_frozen hs.z 3; have y4 := (blk_cell hs.z 4).trans rfl; have fy4 := blk_frozen hs.z 4; have y5 := (blk_cell hs.z 5).trans rfl; have fy5 := blk_frozen hs.z 5; have y6 := (blk_cell hs.z 6).trans rfl; have fy6 := blk_frozen hs.z 6; have hz2 := blk_lt hs.z; clear hb hs)
  all_goals
    have hle_ : w.heap.size ≤ w.heap.size + 2 := by omega
    have hk_ : ∀ g, g ≤ w.heap.size + 2 → ∀ k_, w.heap.size + 2 < k_ → k_ ≠ g := fun g hg k_ hk => by omega
    go_wp2_with (go_at_call 100; refine Calls.mono (disk_lost.calls A0 c0 l0 s0 A1 c1 l1 s1 0 keep false keep r1 r2 r3 r4 r5 r6 r7 _ (Kd.C_below HR0.out ((HS2.out.set 2 _ rfl).set 3 _ rfl).b) HC0.out (Kd.C_below HR1.out ((HS2.out.set 2 _ rfl).set 3 _ rfl).b) HC1.out HH.out) ?_; rintro e w6 ⟨v0, v2, rfl, ho0, ho2, hb⟩; obtain ⟨Bv, dv, rfl⟩ := Kd.R_slice ho0; obtain ⟨Cv, ev, rfl⟩ := Kd.R_slice ho2; have hs6 := ((HS2.out.set 2 _ rfl).set 3 _ rfl).below hb; have HS6 := Aside0.mk hs6; have HO0 := Aside0.mk (Kd.R_lower (Kd.R_mono (Kd.R_bound ho0) (fun k_ hk => show w.heap.size + 2 < k_ from Nat.lt_of_lt_of_le (blk_lt ((HS2.out.set 2 _ rfl).set 3 _ rfl).z) hk.2.1)) ((HS2.out.set 2 _ rfl).set 3 _ rfl).b.size); have HO2 := Aside0.mk (Kd.R_lower (Kd.R_mono (Kd.R_bound ho2) (fun k_ hk => show w.heap.size + 2 < k_ from Nat.lt_of_lt_of_le (blk_lt ((HS2.out.set 2 _ rfl).set 3 _ rfl).z) hk.2.1)) ((HS2.out.set 2 _ rfl).set 3 _ rfl).b.size); have y0 := (blk_cell hs6.z 0).trans rfl; have fy0 := blk_frozen hs6.z 0; have y1 := (blk_cell hs6.z 1).trans rfl; have fy1 := blk_frozen hs6.z 1; have y2 := (blk_cell hs6.z 2).trans rfl; have fy2 := blk_frozen hs6.z 2; have y3 := (blk_cell hs6.z 3).trans rfl; have fy3 := blk_frozen hs6.z 3; have y4 := (blk_cell hs6.z 4).trans rfl; have fy4 := blk_frozen hs6.z 4; have y5 := (blk_cell hs6.z 5).trans rfl; have fy5 := blk_frozen hs6.z 5; have y6 := (blk_cell hs6.z 6).trans rfl; have fy6 := blk_frozen hs6.z 6; have hz6 := blk_lt hs6.z; clear ho0 ho2 hb hs6)
    refine bodyPost_ret (results_ct rfl _ _ (w.heap.size + 2) 74 _ (0, 0) _ rfl (sp.set7 HS6.out.z) Try.underlying74 rfl (by kernel_rfl)) rfl ?_
    exact ⟨_, _, rfl, Kd.R_mono (sp.far7 _ _ _ _ _ _ _ HO0.out (hk_ _ (Nat.le_refl _))) (fun _ _ => trivial), Kd.R_mono (sp.far7 _ _ _ _ _ _ _ HO2.out (hk_ _ (Nat.le_refl _))) (fun _ _ => trivial), sp.below7 _ _ _ _ _ _ _ HS6.out.b⟩
set_option maxHeartbeats 3200000 in
set_option maxRecDepth 100000 in
theorem sp.burn109_0 (A0 : Option Addr) (c0 : Nat) (l0 : List Int) (s0 : Int) (A1 : Option Addr) (c1 : Nat) (l1 : List Int) (s1 keep : Int) (g1 g2 : Nat) (r : List Int) (r1 : List Int) (r2 : Int) (r3 : List Int) (r4 r5 r6 : Int) (r7 : Bool) (w : World) (hr0 : Kd.C (Kd.int .u8) w A0 l0.length l0) (hc0 : l0.length ≤ c0) (hr1 : Kd.C (Kd.int .u8) w A1 l1.length l1) (hc1 : l1.length ≤ c1)
    (HR : ∀ W, Calls Try.prog 59 #[.agg #[.slice A0 l0.length c0, .int .i64 s0, .slice A1 l1.length c1, .int .i64 s1, .int .i64 0, .int .i64 keep, .bool false]] W fun e w' => e = .returned (.bool true) ∧ Below W.heap.size W w') (HM : ∀ W, Below w.heap.size w W → Calls Try.prog 109 #[.agg #[.slice A0 l0.length c0, .int .i64 s0], .pointer (some ⟨g2, 0, none⟩)] W fun e w' => ∃ v0, e = .returned (.agg #[v0, .int .i64 s0]) ∧ Kd.R (Kd.int .u8) 5 w' W.heap.size (fun _ => True) v0 r ∧ Below W.heap.size W w') (h : disk_lost.f r s0 l1 s1 0 keep false keep = some (r1, r2, r3, r4, r5, r6, r7)) :
    Calls Try.prog 96 #[.agg #[.slice A0 l0.length c0, .int .i64 s0, .slice A1 l1.length c1, .int .i64 s1, .int .i64 0, .int .i64 keep, .bool false], .int .i64 0, .bool false, .agg #[.func (.func 109) #[] #[.pointer (some ⟨g1, 0, none⟩)], .func (.func 109) #[] #[.pointer (some ⟨g2, 0, none⟩)]]] w fun e w' => ∃ v0 v2 : Value, e = .returned (.tuple #[.agg #[v0, .int .i64 r2, v2, .int .i64 r4, .int .i64 r5, .int .i64 r6, .bool r7], .int .i64 14]) ∧ Kd.R (Kd.int .u8) 5 w' w.heap.size (fun _ => True) v0 r1 ∧ Kd.R (Kd.int .u8) 5 w' w.heap.size (fun _ => True) v2 r3 ∧ Below w.heap.size w w' := by
  have HS := Aside0.mk (sp.St.start w (.slice A0 l0.length c0) (.int .i64 s0) (.slice A1 l1.length c1) (.int .i64 s1) (.int .i64 0) (.int .i64 keep) (.bool false) (.func (.func 109) #[] #[.pointer (some ⟨g1, 0, none⟩)]) (.func (.func 109) #[] #[.pointer (some ⟨g2, 0, none⟩)]))
  have HRR := Aside0.mk HR
  have HMM := Aside0.mk HM
  have HH := Aside0.mk h
  have HR0 := Aside0.mk hr0
  have HR1 := Aside0.mk hr1
  have HC0 := Aside0.mk hc0
  have HC1 := Aside0.mk hc1
  clear HR HM h hr0 hr1 hc0 hc1
  go_enter Try.func96, Try.ntmps96
  go_upto_region 1 with fail
  generalize ((w.alloc (.cells #[.slice A0 l0.length c0, .int .i64 s0, .slice A1 l1.length c1, .int .i64 s1, .int .i64 0, .int .i64 keep, .bool false] 74)).alloc (.cells #[.func (.func 109) #[] #[.pointer (some ⟨g1, 0, none⟩)], .func (.func 109) #[] #[.pointer (some ⟨g2, 0, none⟩)]] 130)).alloc (.cells #[.slice none 0 0, .int .i64 0, .slice none 0 0, .int .i64 0, .int .i64 0, .int .i64 0, .bool false] 74) = W2 at HS ⊢
  have cd0 := (blk_cell HS.out.d 0).trans rfl; have cd1 := (blk_cell HS.out.d 1).trans rfl; have cd2 := (blk_cell HS.out.d 2).trans rfl; have cd3 := (blk_cell HS.out.d 3).trans rfl; have cd4 := (blk_cell HS.out.d 4).trans rfl; have cd5 := (blk_cell HS.out.d 5).trans rfl; have cd6 := (blk_cell HS.out.d 6).trans rfl
  go_upto_region 11 with (go_at_call 59; refine Calls.mono (HRR.out _) ?_; rintro e w1 ⟨rfl, hb⟩; have hs := HS.out.below hb; have HS1 := Aside0.mk hs; have a0 := (blk_cell hs.d 0).trans rfl; have fa0 := blk_frozen hs.d 0; have a1 := (blk_cell hs.d 1).trans rfl; have fa1 := blk_frozen hs.d 1; have a2 := (blk_cell hs.d 2).trans rfl; have fa2 := blk_frozen hs.d 2; have a3 := (blk_cell hs.d 3).trans rfl; have fa3 := blk_frozen hs.d 3; have a4 := (blk_cell hs.d 4).trans rfl; have fa4 := blk_frozen hs.d 4; have a5 := (blk_cell hs.d 5).trans rfl; have fa5 := blk_frozen hs.d 5; have a6 := (blk_cell hs.d 6).trans rfl; have fa6 := blk_frozen hs.d 6; have m0 := (blk_cell hs.m 0).trans rfl; have fm0 := blk_frozen hs.m 0; have m1 := (blk_cell hs.m 1).trans rfl; have fm1 := blk_frozen hs.m 1; have z0 := (blk_cell hs.z 0).trans rfl; have fz0 := blk_frozen hs.z 0; have z1 := (blk_cell hs.z 1).trans rfl; have fz1 := blk_frozen hs.z 1; have z2 := (blk_cell hs.z 2).trans rfl; have fz2 := blk_frozen hs.z 2; have z3 := (blk_cell hs.z 3).trans rfl; have fz3 := blk_frozen hs.z 3; have z4 := (blk_cell hs.z 4).trans rfl; have fz4 := blk_frozen hs.z 4; have z5 := (blk_cell hs.z 5).trans rfl; have fz5 := blk_frozen hs.z 5; have z6 := (blk_cell hs.z 6).trans rfl; have fz6 := blk_frozen hs.z 6; have hz := blk_lt hs.z; clear hb hs)
  have HSX := HS1
  clear HS1 z0 fz0 z1 fz1 z2 fz2 z3 fz3 z4 fz4 z5 fz5 z6 fz6
  go_region_with (go_at_call 109; refine Calls.mono (HMM.out _ HSX.out.drew.b) ?_; rintro e w2 ⟨v0, rfl, ho, hb⟩; obtain ⟨Av, cv, rfl⟩ := Kd.R_slice ho; have HO := Aside0.mk (Kd.R_lower (Kd.R_mono (Kd.R_bound ho) (fun k_ hk => show w.heap.size + 2 < k_ from Nat.lt_of_lt_of_le (blk_lt HSX.out.drew.z) hk.2.1)) HSX.out.drew.b.size); have hs := HSX.out.drew.below hb; have HS2 := Aside0.mk hs; have q0 := (blk_cell hs.d 0).trans rfl; have fq0 := blk_frozen hs.d 0; have q1 := (blk_cell hs.d 1).trans rfl; have fq1 := blk_frozen hs.d 1; have q2 := (blk_cell hs.d 2).trans rfl; have fq2 := blk_frozen hs.d 2; have q3 := (blk_cell hs.d 3).trans rfl; have fq3 := blk_frozen hs.d 3; have q4 := (blk_cell hs.d 4).trans rfl; have fq4 := blk_frozen hs.d 4; have q5 := (blk_cell hs.d 5).trans rfl; have fq5 := blk_frozen hs.d 5; have q6 := (blk_cell hs.d 6).trans rfl; have fq6 := blk_frozen hs.d 6; have y0 := (blk_cell hs.z 0).trans rfl; have fy0 := blk_frozen hs.z 0; have y1 := (blk_cell hs.z 1).trans rfl; have fy1 := blk_frozen hs.z 1; have y2 := (blk_cell hs.z 2).trans rfl; have fy2 := blk_frozen hs.z 2; have y3 := (blk_cell hs.z 3).trans rfl; have fy3 := blk_frozen hs.z 3; have y4 := (blk_cell hs.z 4).trans rfl; have fy4 := blk_frozen hs.z 4; have y5 := (blk_cell hs.z 5).trans rfl; have fy5 := blk_frozen hs.z 5; have y6 := (blk_cell hs.z 6).trans rfl; have fy6 := blk_frozen hs.z 6; have hz2 := blk_lt hs.z; clear hb hs ho)
  all_goals
    have hle_ : w.heap.size ≤ w.heap.size + 2 := by omega
    have hk_ : ∀ g, g ≤ w.heap.size + 2 → ∀ k_, w.heap.size + 2 < k_ → k_ ≠ g := fun g hg k_ hk => by omega
    have HO5 := Aside0.mk (fun x : Value => Kd.R_far (p := ⟨w.heap.size, 1, none⟩) (Kd.R_far (p := ⟨w.heap.size, 0, none⟩) HO.out (hk_ _ hle_) (.slice Av r.length cv)) (hk_ _ hle_) x)
    go_wp2_with (go_at_call 100; refine Calls.mono (disk_lost.calls Av cv r s0 A1 c1 l1 s1 0 keep false keep r1 r2 r3 r4 r5 r6 r7 _ (Kd.R_reads' (HO5.out _)).2.2 (Kd.R_reads' (HO5.out (.bool false))).2.1 (Kd.C_below HR1.out ((HS2.out.set 0 _ rfl).set 1 _ rfl).b) HC1.out HH.out) ?_; rintro e w6 ⟨v0, v2, rfl, ho0, ho2, hb⟩; obtain ⟨Bv, dv, rfl⟩ := Kd.R_slice ho0; obtain ⟨Cv, ev, rfl⟩ := Kd.R_slice ho2; have hs6 := ((HS2.out.set 0 _ rfl).set 1 _ rfl).below hb; have HS6 := Aside0.mk hs6; have HO0 := Aside0.mk (Kd.R_lower (Kd.R_mono (Kd.R_bound ho0) (fun k_ hk => show w.heap.size + 2 < k_ from Nat.lt_of_lt_of_le (blk_lt ((HS2.out.set 0 _ rfl).set 1 _ rfl).z) hk.2.1)) ((HS2.out.set 0 _ rfl).set 1 _ rfl).b.size); have HO2 := Aside0.mk (Kd.R_lower (Kd.R_mono (Kd.R_bound ho2) (fun k_ hk => show w.heap.size + 2 < k_ from Nat.lt_of_lt_of_le (blk_lt ((HS2.out.set 0 _ rfl).set 1 _ rfl).z) hk.2.1)) ((HS2.out.set 0 _ rfl).set 1 _ rfl).b.size); have y0 := (blk_cell hs6.z 0).trans rfl; have fy0 := blk_frozen hs6.z 0; have y1 := (blk_cell hs6.z 1).trans rfl; have fy1 := blk_frozen hs6.z 1; have y2 := (blk_cell hs6.z 2).trans rfl; have fy2 := blk_frozen hs6.z 2; have y3 := (blk_cell hs6.z 3).trans rfl; have fy3 := blk_frozen hs6.z 3; have y4 := (blk_cell hs6.z 4).trans rfl; have fy4 := blk_frozen hs6.z 4; have y5 := (blk_cell hs6.z 5).trans rfl; have fy5 := blk_frozen hs6.z 5; have y6 := (blk_cell hs6.z 6).trans rfl; have fy6 := blk_frozen hs6.z 6; have hz6 := blk_lt hs6.z; clear ho0 ho2 hb hs6)
    refine bodyPost_ret (results_ct rfl _ _ (w.heap.size + 2) 74 _ (0, 0) _ rfl (sp.set7 HS6.out.z) Try.underlying74 rfl (by kernel_rfl)) rfl ?_
    exact ⟨_, _, rfl, Kd.R_mono (sp.far7 _ _ _ _ _ _ _ HO0.out (hk_ _ (Nat.le_refl _))) (fun _ _ => trivial), Kd.R_mono (sp.far7 _ _ _ _ _ _ _ HO2.out (hk_ _ (Nat.le_refl _))) (fun _ _ => trivial), sp.below7 _ _ _ _ _ _ _ HS6.out.b⟩
set_option maxHeartbeats 3200000 in
set_option maxRecDepth 100000 in
theorem sp.burn109_1 (A0 : Option Addr) (c0 : Nat) (l0 : List Int) (s0 : Int) (A1 : Option Addr) (c1 : Nat) (l1 : List Int) (s1 keep : Int) (g1 g2 : Nat) (r : List Int) (r1 : List Int) (r2 : Int) (r3 : List Int) (r4 r5 r6 : Int) (r7 : Bool) (w : World) (hr0 : Kd.C (Kd.int .u8) w A0 l0.length l0) (hc0 : l0.length ≤ c0) (hr1 : Kd.C (Kd.int .u8) w A1 l1.length l1) (hc1 : l1.length ≤ c1)
    (HR : ∀ W, Calls Try.prog 59 #[.agg #[.slice A0 l0.length c0, .int .i64 s0, .slice A1 l1.length c1, .int .i64 s1, .int .i64 0, .int .i64 keep, .bool false]] W fun e w' => e = .returned (.bool true) ∧ Below W.heap.size W w') (HM : ∀ W, Below w.heap.size w W → Calls Try.prog 109 #[.agg #[.slice A1 l1.length c1, .int .i64 s1], .pointer (some ⟨g2, 0, none⟩)] W fun e w' => ∃ v0, e = .returned (.agg #[v0, .int .i64 s1]) ∧ Kd.R (Kd.int .u8) 5 w' W.heap.size (fun _ => True) v0 r ∧ Below W.heap.size W w') (h : disk_lost.f l0 s0 r s1 0 keep false keep = some (r1, r2, r3, r4, r5, r6, r7)) :
    Calls Try.prog 96 #[.agg #[.slice A0 l0.length c0, .int .i64 s0, .slice A1 l1.length c1, .int .i64 s1, .int .i64 0, .int .i64 keep, .bool false], .int .i64 1, .bool false, .agg #[.func (.func 109) #[] #[.pointer (some ⟨g1, 0, none⟩)], .func (.func 109) #[] #[.pointer (some ⟨g2, 0, none⟩)]]] w fun e w' => ∃ v0 v2 : Value, e = .returned (.tuple #[.agg #[v0, .int .i64 r2, v2, .int .i64 r4, .int .i64 r5, .int .i64 r6, .bool r7], .int .i64 14]) ∧ Kd.R (Kd.int .u8) 5 w' w.heap.size (fun _ => True) v0 r1 ∧ Kd.R (Kd.int .u8) 5 w' w.heap.size (fun _ => True) v2 r3 ∧ Below w.heap.size w w' := by
  have HS := Aside0.mk (sp.St.start w (.slice A0 l0.length c0) (.int .i64 s0) (.slice A1 l1.length c1) (.int .i64 s1) (.int .i64 0) (.int .i64 keep) (.bool false) (.func (.func 109) #[] #[.pointer (some ⟨g1, 0, none⟩)]) (.func (.func 109) #[] #[.pointer (some ⟨g2, 0, none⟩)]))
  have HRR := Aside0.mk HR
  have HMM := Aside0.mk HM
  have HH := Aside0.mk h
  have HR0 := Aside0.mk hr0
  have HR1 := Aside0.mk hr1
  have HC0 := Aside0.mk hc0
  have HC1 := Aside0.mk hc1
  clear HR HM h hr0 hr1 hc0 hc1
  go_enter Try.func96, Try.ntmps96
  go_upto_region 1 with fail
  generalize ((w.alloc (.cells #[.slice A0 l0.length c0, .int .i64 s0, .slice A1 l1.length c1, .int .i64 s1, .int .i64 0, .int .i64 keep, .bool false] 74)).alloc (.cells #[.func (.func 109) #[] #[.pointer (some ⟨g1, 0, none⟩)], .func (.func 109) #[] #[.pointer (some ⟨g2, 0, none⟩)]] 130)).alloc (.cells #[.slice none 0 0, .int .i64 0, .slice none 0 0, .int .i64 0, .int .i64 0, .int .i64 0, .bool false] 74) = W2 at HS ⊢
  have cd0 := (blk_cell HS.out.d 0).trans rfl; have cd1 := (blk_cell HS.out.d 1).trans rfl; have cd2 := (blk_cell HS.out.d 2).trans rfl; have cd3 := (blk_cell HS.out.d 3).trans rfl; have cd4 := (blk_cell HS.out.d 4).trans rfl; have cd5 := (blk_cell HS.out.d 5).trans rfl; have cd6 := (blk_cell HS.out.d 6).trans rfl
  go_upto_region 11 with (go_at_call 59; refine Calls.mono (HRR.out _) ?_; rintro e w1 ⟨rfl, hb⟩; have hs := HS.out.below hb; have HS1 := Aside0.mk hs; have a0 := (blk_cell hs.d 0).trans rfl; have fa0 := blk_frozen hs.d 0; have a1 := (blk_cell hs.d 1).trans rfl; have fa1 := blk_frozen hs.d 1; have a2 := (blk_cell hs.d 2).trans rfl; have fa2 := blk_frozen hs.d 2; have a3 := (blk_cell hs.d 3).trans rfl; have fa3 := blk_frozen hs.d 3; have a4 := (blk_cell hs.d 4).trans rfl; have fa4 := blk_frozen hs.d 4; have a5 := (blk_cell hs.d 5).trans rfl; have fa5 := blk_frozen hs.d 5; have a6 := (blk_cell hs.d 6).trans rfl; have fa6 := blk_frozen hs.d 6; have m0 := (blk_cell hs.m 0).trans rfl; have fm0 := blk_frozen hs.m 0; have m1 := (blk_cell hs.m 1).trans rfl; have fm1 := blk_frozen hs.m 1; have z0 := (blk_cell hs.z 0).trans rfl; have fz0 := blk_frozen hs.z 0; have z1 := (blk_cell hs.z 1).trans rfl; have fz1 := blk_frozen hs.z 1; have z2 := (blk_cell hs.z 2).trans rfl; have fz2 := blk_frozen hs.z 2; have z3 := (blk_cell hs.z 3).trans rfl; have fz3 := blk_frozen hs.z 3; have z4 := (blk_cell hs.z 4).trans rfl; have fz4 := blk_frozen hs.z 4; have z5 := (blk_cell hs.z 5).trans rfl; have fz5 := blk_frozen hs.z 5; have z6 := (blk_cell hs.z 6).trans rfl; have fz6 := blk_frozen hs.z 6; have hz := blk_lt hs.z; clear hb hs)
  have HSX := HS1
  clear HS1 z0 fz0 z1 fz1 z2 fz2 z3 fz3 z4 fz4 z5 fz5 z6 fz6
  go_region_with (go_at_call 109; refine Calls.mono (HMM.out _ HSX.out.drew.b) ?_; rintro e w2 ⟨v0, rfl, ho, hb⟩; obtain ⟨Av, cv, rfl⟩ := Kd.R_slice ho; have HO := Aside0.mk (Kd.R_lower (Kd.R_mono (Kd.R_bound ho) (fun k_ hk => show w.heap.size + 2 < k_ from Nat.lt_of_lt_of_le (blk_lt HSX.out.drew.z) hk.2.1)) HSX.out.drew.b.size); have hs := HSX.out.drew.below hb; have HS2 := Aside0.mk hs; have q0 := (blk_cell hs.d 0).trans rfl; have fq0 := blk_frozen hs.d 0; have q1 := (blk_cell hs.d 1).trans rfl; have fq1 := blk_frozen hs.d 1; have q2 := (blk_cell hs.d 2).trans rfl; have fq2 := blk_frozen hs.d 2; have q3 := (blk_cell hs.d 3).trans rfl; have fq3 := blk_frozen hs.d 3; have q4 := (blk_cell hs.d 4).trans rfl; have fq4 := blk_frozen hs.d 4; have q5 := (blk_cell hs.d 5).trans rfl; have fq5 := blk_frozen hs.d 5; have q6 := (blk_cell hs.d 6).trans rfl; have fq6 := blk_frozen hs.d 6; have y0 := (blk_cell hs.z 0).trans rfl; have fy0 := blk_frozen hs.z 0; have y1 := (blk_cell hs.z 1).trans rfl; have fy1 := blk_frozen hs.z 1; have y2 := (blk_cell hs.z 2).trans rfl; have fy2 := blk_frozen hs.z 2; have y3 := (blk_cell hs.z 3).trans rfl; have fy3 := blk_frozen hs.z 3; have y4 := (blk_cell hs.z 4).trans rfl; have fy4 := blk_frozen hs.z 4; have y5 := (blk_cell hs.z 5).trans rfl; have fy5 := blk_frozen hs.z 5; have y6 := (blk_cell hs.z 6).trans rfl; have fy6 := blk_frozen hs.z 6; have hz2 := blk_lt hs.z; clear hb hs ho)
  all_goals
    have hle_ : w.heap.size ≤ w.heap.size + 2 := by omega
    have hk_ : ∀ g, g ≤ w.heap.size + 2 → ∀ k_, w.heap.size + 2 < k_ → k_ ≠ g := fun g hg k_ hk => by omega
    have HO5 := Aside0.mk (fun x : Value => Kd.R_far (p := ⟨w.heap.size, 3, none⟩) (Kd.R_far (p := ⟨w.heap.size, 2, none⟩) HO.out (hk_ _ hle_) (.slice Av r.length cv)) (hk_ _ hle_) x)
    go_wp2_with (go_at_call 100; refine Calls.mono (disk_lost.calls A0 c0 l0 s0 Av cv r s1 0 keep false keep r1 r2 r3 r4 r5 r6 r7 _ (Kd.C_below HR0.out ((HS2.out.set 2 _ rfl).set 3 _ rfl).b) HC0.out (Kd.R_reads' (HO5.out _)).2.2 (Kd.R_reads' (HO5.out (.bool false))).2.1 HH.out) ?_; rintro e w6 ⟨v0, v2, rfl, ho0, ho2, hb⟩; obtain ⟨Bv, dv, rfl⟩ := Kd.R_slice ho0; obtain ⟨Cv, ev, rfl⟩ := Kd.R_slice ho2; have hs6 := ((HS2.out.set 2 _ rfl).set 3 _ rfl).below hb; have HS6 := Aside0.mk hs6; have HO0 := Aside0.mk (Kd.R_lower (Kd.R_mono (Kd.R_bound ho0) (fun k_ hk => show w.heap.size + 2 < k_ from Nat.lt_of_lt_of_le (blk_lt ((HS2.out.set 2 _ rfl).set 3 _ rfl).z) hk.2.1)) ((HS2.out.set 2 _ rfl).set 3 _ rfl).b.size); have HO2 := Aside0.mk (Kd.R_lower (Kd.R_mono (Kd.R_bound ho2) (fun k_ hk => show w.heap.size + 2 < k_ from Nat.lt_of_lt_of_le (blk_lt ((HS2.out.set 2 _ rfl).set 3 _ rfl).z) hk.2.1)) ((HS2.out.set 2 _ rfl).set 3 _ rfl).b.size); have y0 := (blk_cell hs6.z 0).trans rfl; have fy0 := blk_frozen hs6.z 0; have y1 := (blk_cell hs6.z 1).trans rfl; have fy1 := blk_frozen hs6.z 1; have y2 := (blk_cell hs6.z 2).trans rfl; have fy2 := blk_frozen hs6.z 2; have y3 := (blk_cell hs6.z 3).trans rfl; have fy3 := blk_frozen hs6.z 3; have y4 := (blk_cell hs6.z 4).trans rfl; have fy4 := blk_frozen hs6.z 4; have y5 := (blk_cell hs6.z 5).trans rfl; have fy5 := blk_frozen hs6.z 5; have y6 := (blk_cell hs6.z 6).trans rfl; have fy6 := blk_frozen hs6.z 6; have hz6 := blk_lt hs6.z; clear ho0 ho2 hb hs6)
    refine bodyPost_ret (results_ct rfl _ _ (w.heap.size + 2) 74 _ (0, 0) _ rfl (sp.set7 HS6.out.z) Try.underlying74 rfl (by kernel_rfl)) rfl ?_
    exact ⟨_, _, rfl, Kd.R_mono (sp.far7 _ _ _ _ _ _ _ HO0.out (hk_ _ (Nat.le_refl _))) (fun _ _ => trivial), Kd.R_mono (sp.far7 _ _ _ _ _ _ _ HO2.out (hk_ _ (Nat.le_refl _))) (fun _ _ => trivial), sp.below7 _ _ _ _ _ _ _ HS6.out.b⟩

set_option maxHeartbeats 800000 in
set_option maxRecDepth 100000 in
/-- What adds some bytes: a function over them. -/
theorem mv.clo (Bb : Option Addr) (n cb : Nat) (w : World) : Calls Try.prog 97 #[.slice Bb n cb] w fun e w' => ∃ g : Nat, e = .returned (.func (.func 109) #[] #[.pointer (some ⟨g, 0, none⟩)]) ∧ w.heap.size ≤ g ∧ w'.heap[g]? = some (.cells #[.slice Bb n cb] 22 (0, 0)) ∧ Below w.heap.size w w' := by
  go_enter Try.func97, Try.ntmps97
  go_wp2
  go_ret
  exact ⟨_, rfl, Nat.le_refl _, blk_new _ _, (Below.refl _ _).alloc (Nat.le_refl _) _⟩
/-- What a step does: refused, down, full, the power goes, done. -/
def sp.f (ok full down : Bool) (l0 : List Int) (s0 : Int) (l1 : List Int) (s1 fuse keep : Int) (torn all : Option (List Int × Int × List Int × Int)) : Option (List Int × Int × List Int × Int × Int × Int × Bool × Int) :=
  if ok = true then
    if down = true then some (l0, s0, l1, s1, fuse, keep, down, 14)
    else if full = true then some (l0, s0, l1, s1, fuse, keep, down, 12)
    else if fuse = 0 then torn.bind fun q => (disk_lost.f q.1 q.2.1 q.2.2.1 q.2.2.2 0 keep false keep).bind fun r => some (r.1, r.2.1, r.2.2.1, r.2.2.2.1, r.2.2.2.2.1, r.2.2.2.2.2.1, r.2.2.2.2.2.2, 14)
    else all.bind fun q => some (q.1, q.2.1, q.2.2.1, q.2.2.2, (if 0 < fuse then wrap64 (fuse - 1) else fuse), keep, down, 0)
  else some (l0, s0, l1, s1, fuse, keep, down, 1)
/-- A row that is one of two that came in, or new. -/
def sp.Row (W w' : World) (A0 : Option Addr) (c0 : Nat) (l0 : List Int) (A1 : Option Addr) (c1 : Nat) (l1 : List Int) (v : Value) (r : List Int) : Prop :=
  (v = .slice A0 l0.length c0 ∧ r = l0) ∨ (v = .slice A1 l1.length c1 ∧ r = l1) ∨ Kd.R (Kd.int .u8) 5 w' W.heap.size (fun _ => True) v r
def sp.Post (W : World) (A0 : Option Addr) (c0 : Nat) (l0 : List Int) (A1 : Option Addr) (c1 : Nat) (l1 : List Int) (r : List Int × Int × List Int × Int × Int × Int × Bool × Int) (e : Ending) (w' : World) : Prop :=
  ∃ v0 v2 : Value, e = .returned (.tuple #[.agg #[v0, .int .i64 r.2.1, v2, .int .i64 r.2.2.2.1, .int .i64 r.2.2.2.2.1, .int .i64 r.2.2.2.2.2.1, .bool r.2.2.2.2.2.2.1], .int .i64 r.2.2.2.2.2.2.2]) ∧ sp.Row W w' A0 c0 l0 A1 c1 l1 v0 r.1 ∧ sp.Row W w' A0 c0 l0 A1 c1 l1 v2 r.2.2.1 ∧ Below W.heap.size W w'
section
variable {A0 : Option Addr} {c0 : Nat} {l0 : List Int} {s0 : Int} {A1 : Option Addr} {c1 : Nat} {l1 : List Int} {s1 fuse keep k : Int} {W w w' : World} {P0 P2 : Nat → Prop} {down : Bool}
theorem sp.Row.slice {v : Value} {r : List Int} (h : sp.Row W w' A0 c0 l0 A1 c1 l1 v r) : ∃ A c, v = .slice A r.length c := by
  rcases h with ⟨rfl, rfl⟩ | ⟨rfl, rfl⟩ | h
  · exact ⟨_, _, rfl⟩
  · exact ⟨_, _, rfl⟩
  · exact Kd.R_slice h
/-- Such a row, behind what is written into a block that was there already. -/
theorem sp.Row.fin {v : Value} {r : List Int} {g : Nat} (a b c d e f x : Value) (hs0 : Kd.V (Kd.int .u8) 5 w w.heap.size P0 (.slice A0 l0.length c0) l0) (hs1 : Kd.V (Kd.int .u8) 5 w w.heap.size P2 (.slice A1 l1.length c1) l1) (h : sp.Row W w' A0 c0 l0 A1 c1 l1 v r) (hg : g < W.heap.size) (hW : w.heap.size ≤ W.heap.size)
    (hb : Below w.heap.size w (((((((w'.setCell ⟨g, 0, none⟩ a).setCell ⟨g, 1, none⟩ b).setCell ⟨g, 2, none⟩ c).setCell ⟨g, 3, none⟩ d).setCell ⟨g, 4, none⟩ e).setCell ⟨g, 5, none⟩ f).setCell ⟨g, 6, none⟩ x)) :
    Kd.V (Kd.int .u8) 5 (((((((w'.setCell ⟨g, 0, none⟩ a).setCell ⟨g, 1, none⟩ b).setCell ⟨g, 2, none⟩ c).setCell ⟨g, 3, none⟩ d).setCell ⟨g, 4, none⟩ e).setCell ⟨g, 5, none⟩ f).setCell ⟨g, 6, none⟩ x) w.heap.size (fun k_ => ((P0 k_ ∨ P2 k_) ∨ w.heap.size ≤ k_)) v r := by
  rcases h with ⟨rfl, rfl⟩ | ⟨rfl, rfl⟩ | h
  · exact Kd.V_mono (Kd.V_below hs0 hb) (fun k_ hk => .inl (.inl hk))
  · exact Kd.V_mono (Kd.V_below hs1 hb) (fun k_ hk => .inl (.inr hk))
  · exact Kd.V_mono (Kd.R_V (sp.far7 a b c d e f x (Kd.R_mono (Kd.R_bound h) (fun k_ hk => (show W.heap.size ≤ k_ from hk.2.1))) (fun k_ hk => by have h_ : W.heap.size ≤ k_ := hk; omega))) (fun k_ hk => .inr (Nat.le_trans hW hk))
theorem sp.same {fu : Int} {dn : Bool} {code : Int} {e : Ending} (h : e = .returned (.tuple #[.agg #[.slice A0 l0.length c0, .int .i64 s0, .slice A1 l1.length c1, .int .i64 s1, .int .i64 fu, .int .i64 keep, .bool dn], .int .i64 code]) ∧ Below W.heap.size W w') : sp.Post W A0 c0 l0 A1 c1 l1 (l0, s0, l1, s1, fu, keep, dn, code) e w' :=
  ⟨_, _, h.1, .inl ⟨rfl, rfl⟩, .inr (.inl ⟨rfl, rfl⟩), h.2⟩
theorem sp.right (h : dk.right l0.length s0 l1.length s1 fuse keep = true) (W : World) : Calls Try.prog 59 #[.agg #[.slice A0 l0.length c0, .int .i64 s0, .slice A1 l1.length c1, .int .i64 s1, .int .i64 fuse, .int .i64 keep, .bool down]] W fun e w' => e = .returned (.bool true) ∧ Below W.heap.size W w' := by
  have := dk.walk A0 c0 l0.length s0 A1 c1 l1.length s1 fuse keep down W
  rw [h] at this; exact this
theorem sp.wrongs (h : dk.right l0.length s0 l1.length s1 fuse keep = false) (W : World) : Calls Try.prog 59 #[.agg #[.slice A0 l0.length c0, .int .i64 s0, .slice A1 l1.length c1, .int .i64 s1, .int .i64 fuse, .int .i64 keep, .bool down]] W fun e w' => e = .returned (.bool false) ∧ Below W.heap.size W w' := by
  have := dk.walk A0 c0 l0.length s0 A1 c1 l1.length s1 fuse keep down W
  rw [h] at this; exact this
/-- A step that is refused: by what isn't right, by the place, down, or full. -/
theorem sp.refused {full : Bool} {torn all : Option (List Int × Int × List Int × Int)} {r : List Int × Int × List Int × Int × Int × Int × Bool × Int} (F1 F2 : Value) (o1 : F1.oneCell' = true) (o2 : F2.oneCell' = true)
    (hn : ¬ ((dk.right l0.length s0 l1.length s1 fuse keep && (decide (0 ≤ k) && decide (k < 2))) = true ∧ down = false ∧ full = false))
    (h : sp.f (dk.right l0.length s0 l1.length s1 fuse keep && (decide (0 ≤ k) && decide (k < 2))) full down l0 s0 l1 s1 fuse keep torn all = some r) :
    Calls Try.prog 96 #[.agg #[.slice A0 l0.length c0, .int .i64 s0, .slice A1 l1.length c1, .int .i64 s1, .int .i64 fuse, .int .i64 keep, .bool down], .int .i64 k, .bool full, .agg #[F1, F2]] W (sp.Post W A0 c0 l0 A1 c1 l1 r) := by
  unfold sp.f at h
  cases hr : dk.right l0.length s0 l1.length s1 fuse keep with
  | false =>
    rw [hr, Bool.false_and, if_neg (by decide)] at h
    obtain rfl := Option.some.inj h
    exact (sp.wrong A0 c0 l0.length s0 A1 c1 l1.length s1 fuse keep k down full F1 F2 o1 o2 W (sp.wrongs hr)).mono (fun _ _ h_ => sp.same h_)
  | true =>
    rw [hr, Bool.true_and] at h hn
    by_cases k0 : 0 ≤ k
    · by_cases k2 : k < 2
      · rw [decide_eq_true k0, decide_eq_true k2, if_pos (by decide)] at h
        rw [decide_eq_true k0, decide_eq_true k2] at hn
        cases down with
        | true =>
          rw [if_pos rfl] at h
          obtain rfl := Option.some.inj h
          exact (sp.downed A0 c0 l0.length s0 A1 c1 l1.length s1 fuse keep k full F1 F2 o1 o2 W (sp.right hr) k0 k2).mono (fun _ _ h_ => sp.same h_)
        | false =>
          cases full with
          | true =>
            rw [if_neg (by decide), if_pos rfl] at h
            obtain rfl := Option.some.inj h
            exact (sp.full A0 c0 l0.length s0 A1 c1 l1.length s1 fuse keep k true F1 F2 o1 o2 W (sp.right hr) k0 k2).mono (fun _ _ h_ => sp.same h_)
          | false => exact absurd ⟨rfl, rfl, rfl⟩ hn
      · rw [decide_eq_false k2, Bool.and_false, if_neg (by decide)] at h
        obtain rfl := Option.some.inj h
        exact (sp.above A0 c0 l0.length s0 A1 c1 l1.length s1 fuse keep k down full F1 F2 o1 o2 W (sp.right hr) (by omega)).mono (fun _ _ h_ => sp.same h_)
    · rw [decide_eq_false k0, Bool.false_and, if_neg (by decide)] at h
      obtain rfl := Option.some.inj h
      exact (sp.below A0 c0 l0.length s0 A1 c1 l1.length s1 fuse keep k down full F1 F2 o1 o2 W (sp.right hr) (by omega)).mono (fun _ _ h_ => sp.same h_)
end
theorem sp.ssure {A0 : Option Addr} {c0 : Nat} {l0 : List Int} {s0 : Int} {A1 : Option Addr} {c1 : Nat} {l1 : List Int} {s1 fuse keep k : Int} {W w : World} {P0 P2 : Nat → Prop} {down : Bool} {r : List Int × Int × List Int × Int × Int × Int × Bool × Int} (hbW : Below w.heap.size w W) (hs0 : Kd.V (Kd.int .u8) 5 w w.heap.size P0 (.slice A0 l0.length c0) l0) (hs1 : Kd.V (Kd.int .u8) 5 w w.heap.size P2 (.slice A1 l1.length c1) l1)
    (h : sp.f (dk.right l0.length s0 l1.length s1 fuse keep && (decide (0 ≤ k) && decide (k < 2))) false down l0 s0 l1 s1 fuse keep (some (l0, s0, l1, s1)) (some (if k = 0 then (l0, (l0.length : Int), l1, s1) else (l0, s0, l1, (l1.length : Int)))) = some r) :
    Calls Try.prog 96 #[.agg #[.slice A0 l0.length c0, .int .i64 s0, .slice A1 l1.length c1, .int .i64 s1, .int .i64 fuse, .int .i64 keep, .bool down], .int .i64 k, .bool false, .agg #[.func (.func 98) #[] #[], .func (.func 99) #[] #[]]] W (sp.Post W A0 c0 l0 A1 c1 l1 r) := by
  by_cases hn : (dk.right l0.length s0 l1.length s1 fuse keep && (decide (0 ≤ k) && decide (k < 2))) = true ∧ down = false ∧ (false : Bool) = false
  case neg => exact sp.refused _ _ rfl rfl hn h
  obtain ⟨hok, rfl, _⟩ := hn
  unfold sp.f at h
  rw [if_pos hok, if_neg (by decide), if_neg (by decide)] at h
  simp only [Bool.and_eq_true, decide_eq_true_eq] at hok
  obtain ⟨hr, k0, k2⟩ := hok
  by_cases hf : fuse = 0
  · subst hf
    rw [if_pos rfl] at h
    simp only [Option.bind_some] at h
    replace h := Option.bind_eq_some_iff.1 h
    obtain ⟨q, hq, h⟩ := h
    obtain rfl := Option.some.inj h
    rcases (show k = 0 ∨ k = 1 by omega) with rfl | rfl
    · skip
      exact (sp.burn99_0 A0 c0 l0 s0 A1 c1 l1 s1 keep (.func (.func 98) #[] #[]) rfl q.1 q.2.1 q.2.2.1 q.2.2.2.1 q.2.2.2.2.1 q.2.2.2.2.2.1 q.2.2.2.2.2.2 W (Kd.C_below (Kd.V_reads' hs0).2.2 hbW) (Kd.V_reads' hs0).2.1 (Kd.C_below (Kd.V_reads' hs1).2.2 hbW) (Kd.V_reads' hs1).2.1 (sp.right hr) (fun W => mv.same A0 l0.length c0 s0 W) hq).mono (fun _ _ ⟨v0, v2, e_, h0_, h2_, hb_⟩ => ⟨v0, v2, e_, .inr (.inr h0_), .inr (.inr h2_), hb_⟩)
    · skip
      exact (sp.burn99_1 A0 c0 l0 s0 A1 c1 l1 s1 keep (.func (.func 98) #[] #[]) rfl q.1 q.2.1 q.2.2.1 q.2.2.2.1 q.2.2.2.2.1 q.2.2.2.2.2.1 q.2.2.2.2.2.2 W (Kd.C_below (Kd.V_reads' hs0).2.2 hbW) (Kd.V_reads' hs0).2.1 (Kd.C_below (Kd.V_reads' hs1).2.2 hbW) (Kd.V_reads' hs1).2.1 (sp.right hr) (fun W => mv.same A1 l1.length c1 s1 W) hq).mono (fun _ _ ⟨v0, v2, e_, h0_, h2_, hb_⟩ => ⟨v0, v2, e_, .inr (.inr h0_), .inr (.inr h2_), hb_⟩)
  · rw [if_neg hf] at h
    simp only [Option.bind_some] at h
    rcases (show k = 0 ∨ k = 1 by omega) with rfl | rfl
    · rw [if_pos rfl] at h
      by_cases hd : 0 < fuse
      · rw [if_pos hd] at h
        obtain rfl := Option.some.inj h
        exact (sp.dec98_0 A0 c0 l0.length s0 A1 c1 l1.length s1 fuse keep A0 l0.length c0 (l0.length : Int) W (sp.right hr) (fun W => mv.sure A0 l0.length c0 s0 W) hd).mono (fun _ _ h_ => ⟨_, _, h_.1, .inl ⟨rfl, rfl⟩, .inr (.inl ⟨rfl, rfl⟩), h_.2⟩)
      · rw [if_neg hd] at h
        obtain rfl := Option.some.inj h
        exact (sp.free98_0 A0 c0 l0.length s0 A1 c1 l1.length s1 fuse keep A0 l0.length c0 (l0.length : Int) W (sp.right hr) (fun W => mv.sure A0 l0.length c0 s0 W) (by omega)).mono (fun _ _ h_ => ⟨_, _, h_.1, .inl ⟨rfl, rfl⟩, .inr (.inl ⟨rfl, rfl⟩), h_.2⟩)
    · rw [if_neg (by decide)] at h
      by_cases hd : 0 < fuse
      · rw [if_pos hd] at h
        obtain rfl := Option.some.inj h
        exact (sp.dec98_1 A0 c0 l0.length s0 A1 c1 l1.length s1 fuse keep A1 l1.length c1 (l1.length : Int) W (sp.right hr) (fun W => mv.sure A1 l1.length c1 s1 W) hd).mono (fun _ _ h_ => ⟨_, _, h_.1, .inl ⟨rfl, rfl⟩, .inr (.inl ⟨rfl, rfl⟩), h_.2⟩)
      · rw [if_neg hd] at h
        obtain rfl := Option.some.inj h
        exact (sp.free98_1 A0 c0 l0.length s0 A1 c1 l1.length s1 fuse keep A1 l1.length c1 (l1.length : Int) W (sp.right hr) (fun W => mv.sure A1 l1.length c1 s1 W) (by omega)).mono (fun _ _ h_ => ⟨_, _, h_.1, .inl ⟨rfl, rfl⟩, .inr (.inl ⟨rfl, rfl⟩), h_.2⟩)
theorem sp.swipe {A0 : Option Addr} {c0 : Nat} {l0 : List Int} {s0 : Int} {A1 : Option Addr} {c1 : Nat} {l1 : List Int} {s1 fuse keep k : Int} {W w : World} {P0 P2 : Nat → Prop} {down : Bool} {r : List Int × Int × List Int × Int × Int × Int × Bool × Int} (hbW : Below w.heap.size w W) (hs0 : Kd.V (Kd.int .u8) 5 w w.heap.size P0 (.slice A0 l0.length c0) l0) (hs1 : Kd.V (Kd.int .u8) 5 w w.heap.size P2 (.slice A1 l1.length c1) l1)
    (h : sp.f (dk.right l0.length s0 l1.length s1 fuse keep && (decide (0 ≤ k) && decide (k < 2))) false down l0 s0 l1 s1 fuse keep (some (l0, s0, l1, s1)) (some (if k = 0 then (([] : List Int), (0 : Int), l1, s1) else (l0, s0, ([] : List Int), (0 : Int)))) = some r) :
    Calls Try.prog 96 #[.agg #[.slice A0 l0.length c0, .int .i64 s0, .slice A1 l1.length c1, .int .i64 s1, .int .i64 fuse, .int .i64 keep, .bool down], .int .i64 k, .bool false, .agg #[.func (.func 103) #[] #[], .func (.func 99) #[] #[]]] W (sp.Post W A0 c0 l0 A1 c1 l1 r) := by
  by_cases hn : (dk.right l0.length s0 l1.length s1 fuse keep && (decide (0 ≤ k) && decide (k < 2))) = true ∧ down = false ∧ (false : Bool) = false
  case neg => exact sp.refused _ _ rfl rfl hn h
  obtain ⟨hok, rfl, _⟩ := hn
  unfold sp.f at h
  rw [if_pos hok, if_neg (by decide), if_neg (by decide)] at h
  simp only [Bool.and_eq_true, decide_eq_true_eq] at hok
  obtain ⟨hr, k0, k2⟩ := hok
  by_cases hf : fuse = 0
  · subst hf
    rw [if_pos rfl] at h
    simp only [Option.bind_some] at h
    replace h := Option.bind_eq_some_iff.1 h
    obtain ⟨q, hq, h⟩ := h
    obtain rfl := Option.some.inj h
    rcases (show k = 0 ∨ k = 1 by omega) with rfl | rfl
    · skip
      exact (sp.burn99_0 A0 c0 l0 s0 A1 c1 l1 s1 keep (.func (.func 103) #[] #[]) rfl q.1 q.2.1 q.2.2.1 q.2.2.2.1 q.2.2.2.2.1 q.2.2.2.2.2.1 q.2.2.2.2.2.2 W (Kd.C_below (Kd.V_reads' hs0).2.2 hbW) (Kd.V_reads' hs0).2.1 (Kd.C_below (Kd.V_reads' hs1).2.2 hbW) (Kd.V_reads' hs1).2.1 (sp.right hr) (fun W => mv.same A0 l0.length c0 s0 W) hq).mono (fun _ _ ⟨v0, v2, e_, h0_, h2_, hb_⟩ => ⟨v0, v2, e_, .inr (.inr h0_), .inr (.inr h2_), hb_⟩)
    · skip
      exact (sp.burn99_1 A0 c0 l0 s0 A1 c1 l1 s1 keep (.func (.func 103) #[] #[]) rfl q.1 q.2.1 q.2.2.1 q.2.2.2.1 q.2.2.2.2.1 q.2.2.2.2.2.1 q.2.2.2.2.2.2 W (Kd.C_below (Kd.V_reads' hs0).2.2 hbW) (Kd.V_reads' hs0).2.1 (Kd.C_below (Kd.V_reads' hs1).2.2 hbW) (Kd.V_reads' hs1).2.1 (sp.right hr) (fun W => mv.same A1 l1.length c1 s1 W) hq).mono (fun _ _ ⟨v0, v2, e_, h0_, h2_, hb_⟩ => ⟨v0, v2, e_, .inr (.inr h0_), .inr (.inr h2_), hb_⟩)
  · rw [if_neg hf] at h
    simp only [Option.bind_some] at h
    rcases (show k = 0 ∨ k = 1 by omega) with rfl | rfl
    · rw [if_pos rfl] at h
      by_cases hd : 0 < fuse
      · rw [if_pos hd] at h
        obtain rfl := Option.some.inj h
        exact (sp.dec103_0 A0 c0 l0.length s0 A1 c1 l1.length s1 fuse keep none 0 0 0 W (sp.right hr) (fun W => mv.wipe A0 l0.length c0 s0 W) hd).mono (fun _ _ h_ => ⟨_, _, h_.1, .inr (.inr (Kd.R_nil _ _ _ _ _)), .inr (.inl ⟨rfl, rfl⟩), h_.2⟩)
      · rw [if_neg hd] at h
        obtain rfl := Option.some.inj h
        exact (sp.free103_0 A0 c0 l0.length s0 A1 c1 l1.length s1 fuse keep none 0 0 0 W (sp.right hr) (fun W => mv.wipe A0 l0.length c0 s0 W) (by omega)).mono (fun _ _ h_ => ⟨_, _, h_.1, .inr (.inr (Kd.R_nil _ _ _ _ _)), .inr (.inl ⟨rfl, rfl⟩), h_.2⟩)
    · rw [if_neg (by decide)] at h
      by_cases hd : 0 < fuse
      · rw [if_pos hd] at h
        obtain rfl := Option.some.inj h
        exact (sp.dec103_1 A0 c0 l0.length s0 A1 c1 l1.length s1 fuse keep none 0 0 0 W (sp.right hr) (fun W => mv.wipe A1 l1.length c1 s1 W) hd).mono (fun _ _ h_ => ⟨_, _, h_.1, .inl ⟨rfl, rfl⟩, .inr (.inr (Kd.R_nil _ _ _ _ _)), h_.2⟩)
      · rw [if_neg hd] at h
        obtain rfl := Option.some.inj h
        exact (sp.free103_1 A0 c0 l0.length s0 A1 c1 l1.length s1 fuse keep none 0 0 0 W (sp.right hr) (fun W => mv.wipe A1 l1.length c1 s1 W) (by omega)).mono (fun _ _ h_ => ⟨_, _, h_.1, .inl ⟨rfl, rfl⟩, .inr (.inr (Kd.R_nil _ _ _ _ _)), h_.2⟩)
set_option maxHeartbeats 3200000 in
set_option maxRecDepth 100000 in
theorem fw.sync {A0 : Option Addr} {c0 : Nat} {l0 : List Int} {s0 : Int} {A1 : Option Addr} {c1 : Nat} {l1 : List Int} {s1 fuse keep k : Int} {W w : World} {P0 P2 : Nat → Prop} {down : Bool} {r : List Int × Int × List Int × Int × Int × Int × Bool × Int} (hs0 : Kd.V (Kd.int .u8) 5 w w.heap.size P0 (.slice A0 l0.length c0) l0) (hs1 : Kd.V (Kd.int .u8) 5 w w.heap.size P2 (.slice A1 l1.length c1) l1)
    (h : sp.f (dk.right l0.length s0 l1.length s1 fuse keep && (decide (0 ≤ k) && decide (k < 2))) false down l0 s0 l1 s1 fuse keep (some (l0, s0, l1, s1)) (some (if k = 0 then (l0, (l0.length : Int), l1, s1) else (l0, s0, l1, (l1.length : Int)))) = some r) :
    Calls Try.prog 56 #[.agg #[.slice A0 l0.length c0, .int .i64 s0, .slice A1 l1.length c1, .int .i64 s1, .int .i64 fuse, .int .i64 keep, .bool down], .int .i64 k] w fun e w' => ∃ v0_ v2_ : Value, e = .returned (.tuple #[.agg #[v0_, .int .i64 r.2.1, v2_, .int .i64 r.2.2.2.1, .int .i64 r.2.2.2.2.1, .int .i64 r.2.2.2.2.2.1, .bool r.2.2.2.2.2.2.1], .int .i64 r.2.2.2.2.2.2.2]) ∧ Kd.V (Kd.int .u8) 5 w' w.heap.size (fun k_ => ((P0 k_ ∨ P2 k_) ∨ w.heap.size ≤ k_)) v0_ r.1 ∧ Kd.V (Kd.int .u8) 5 w' w.heap.size (fun k_ => ((P0 k_ ∨ P2 k_) ∨ w.heap.size ≤ k_)) v2_ r.2.2.1 ∧ Below w.heap.size w w' := by
  obtain ⟨b0, b1, bb, bs⟩ := sp.two w (.cells #[.slice A0 l0.length c0, .int .i64 s0, .slice A1 l1.length c1, .int .i64 s1, .int .i64 fuse, .int .i64 keep, .bool down] 74) (.cells #[.slice none 0 0, .int .i64 0, .slice none 0 0, .int .i64 0, .int .i64 0, .int .i64 0, .bool false] 74)
  have HST := Aside0.mk (sp.ssure bb hs0 hs1 h)
  have HB1 := Aside0.mk b1
  have HBB := Aside0.mk bb
  have HBS := Aside0.mk bs
  have HS0 := Aside0.mk hs0
  have HS1 := Aside0.mk hs1
  clear hs0 hs1 h b0 b1 bb bs
  go_enter Try.func56, Try.ntmps56
  go_wp2_with (go_at_call 96; refine Calls.mono HST.out ?_; rintro e w3 ⟨v0, v2, rfl, h0, h2, hb⟩; obtain ⟨Bv, dv, rfl⟩ := sp.Row.slice h0; obtain ⟨Cv, ev, rfl⟩ := sp.Row.slice h2; have hz := blk_below HB1.out hb; have HZ := Aside0.mk hz; have H0 := Aside0.mk h0; have H2 := Aside0.mk h2; have HB := Aside0.mk (below_step HBB.out hb); have y0 := (blk_cell hz 0).trans rfl; have fy0 := blk_frozen hz 0; have y1 := (blk_cell hz 1).trans rfl; have fy1 := blk_frozen hz 1; have y2 := (blk_cell hz 2).trans rfl; have fy2 := blk_frozen hz 2; have y3 := (blk_cell hz 3).trans rfl; have fy3 := blk_frozen hz 3; have y4 := (blk_cell hz 4).trans rfl; have fy4 := blk_frozen hz 4; have y5 := (blk_cell hz 5).trans rfl; have fy5 := blk_frozen hz 5; have y6 := (blk_cell hz 6).trans rfl; have fy6 := blk_frozen hz 6; have hlt := blk_lt hz; clear h0 h2 hb hz)
  have hle : w.heap.size ≤ w.heap.size + 1 := by omega
  have hfin := fun a b c d e f x => below_set (j := 6) (v := x) (below_set (j := 5) (v := f) (below_set (j := 4) (v := e) (below_set (j := 3) (v := d) (below_set (j := 2) (v := c) (below_set (j := 1) (v := b) (below_set (j := 0) (v := a) HB.out hle) hle) hle) hle) hle) hle) hle
  have hg : w.heap.size + 1 < ((w.alloc (.cells #[.slice A0 l0.length c0, .int .i64 s0, .slice A1 l1.length c1, .int .i64 s1, .int .i64 fuse, .int .i64 keep, .bool down] 74)).alloc (.cells #[.slice none 0 0, .int .i64 0, .slice none 0 0, .int .i64 0, .int .i64 0, .int .i64 0, .bool false] 74)).heap.size := by rw [HBS.out]; omega
  refine bodyPost_ret (results_ct rfl _ _ (w.heap.size + 1) 74 _ (0, 0) _ rfl (sp.set7 HZ.out) Try.underlying74 rfl (by kernel_rfl)) rfl ?_
  exact ⟨_, _, rfl, sp.Row.fin _ _ _ _ _ _ _ HS0.out HS1.out H0.out hg HBB.out.size (hfin _ _ _ _ _ _ _), sp.Row.fin _ _ _ _ _ _ _ HS0.out HS1.out H2.out hg HBB.out.size (hfin _ _ _ _ _ _ _), hfin _ _ _ _ _ _ _⟩
set_option maxHeartbeats 3200000 in
set_option maxRecDepth 100000 in
theorem fw.wipe {A0 : Option Addr} {c0 : Nat} {l0 : List Int} {s0 : Int} {A1 : Option Addr} {c1 : Nat} {l1 : List Int} {s1 fuse keep k : Int} {W w : World} {P0 P2 : Nat → Prop} {down : Bool} {r : List Int × Int × List Int × Int × Int × Int × Bool × Int} (hs0 : Kd.V (Kd.int .u8) 5 w w.heap.size P0 (.slice A0 l0.length c0) l0) (hs1 : Kd.V (Kd.int .u8) 5 w w.heap.size P2 (.slice A1 l1.length c1) l1)
    (h : sp.f (dk.right l0.length s0 l1.length s1 fuse keep && (decide (0 ≤ k) && decide (k < 2))) false down l0 s0 l1 s1 fuse keep (some (l0, s0, l1, s1)) (some (if k = 0 then (([] : List Int), (0 : Int), l1, s1) else (l0, s0, ([] : List Int), (0 : Int)))) = some r) :
    Calls Try.prog 64 #[.agg #[.slice A0 l0.length c0, .int .i64 s0, .slice A1 l1.length c1, .int .i64 s1, .int .i64 fuse, .int .i64 keep, .bool down], .int .i64 k] w fun e w' => ∃ v0_ v2_ : Value, e = .returned (.tuple #[.agg #[v0_, .int .i64 r.2.1, v2_, .int .i64 r.2.2.2.1, .int .i64 r.2.2.2.2.1, .int .i64 r.2.2.2.2.2.1, .bool r.2.2.2.2.2.2.1], .int .i64 r.2.2.2.2.2.2.2]) ∧ Kd.V (Kd.int .u8) 5 w' w.heap.size (fun k_ => ((P0 k_ ∨ P2 k_) ∨ w.heap.size ≤ k_)) v0_ r.1 ∧ Kd.V (Kd.int .u8) 5 w' w.heap.size (fun k_ => ((P0 k_ ∨ P2 k_) ∨ w.heap.size ≤ k_)) v2_ r.2.2.1 ∧ Below w.heap.size w w' := by
  obtain ⟨b0, b1, bb, bs⟩ := sp.two w (.cells #[.slice A0 l0.length c0, .int .i64 s0, .slice A1 l1.length c1, .int .i64 s1, .int .i64 fuse, .int .i64 keep, .bool down] 74) (.cells #[.slice none 0 0, .int .i64 0, .slice none 0 0, .int .i64 0, .int .i64 0, .int .i64 0, .bool false] 74)
  have HST := Aside0.mk (sp.swipe bb hs0 hs1 h)
  have HB1 := Aside0.mk b1
  have HBB := Aside0.mk bb
  have HBS := Aside0.mk bs
  have HS0 := Aside0.mk hs0
  have HS1 := Aside0.mk hs1
  clear hs0 hs1 h b0 b1 bb bs
  go_enter Try.func64, Try.ntmps64
  go_wp2_with (go_at_call 96; refine Calls.mono HST.out ?_; rintro e w3 ⟨v0, v2, rfl, h0, h2, hb⟩; obtain ⟨Bv, dv, rfl⟩ := sp.Row.slice h0; obtain ⟨Cv, ev, rfl⟩ := sp.Row.slice h2; have hz := blk_below HB1.out hb; have HZ := Aside0.mk hz; have H0 := Aside0.mk h0; have H2 := Aside0.mk h2; have HB := Aside0.mk (below_step HBB.out hb); have y0 := (blk_cell hz 0).trans rfl; have fy0 := blk_frozen hz 0; have y1 := (blk_cell hz 1).trans rfl; have fy1 := blk_frozen hz 1; have y2 := (blk_cell hz 2).trans rfl; have fy2 := blk_frozen hz 2; have y3 := (blk_cell hz 3).trans rfl; have fy3 := blk_frozen hz 3; have y4 := (blk_cell hz 4).trans rfl; have fy4 := blk_frozen hz 4; have y5 := (blk_cell hz 5).trans rfl; have fy5 := blk_frozen hz 5; have y6 := (blk_cell hz 6).trans rfl; have fy6 := blk_frozen hz 6; have hlt := blk_lt hz; clear h0 h2 hb hz)
  have hle : w.heap.size ≤ w.heap.size + 1 := by omega
  have hfin := fun a b c d e f x => below_set (j := 6) (v := x) (below_set (j := 5) (v := f) (below_set (j := 4) (v := e) (below_set (j := 3) (v := d) (below_set (j := 2) (v := c) (below_set (j := 1) (v := b) (below_set (j := 0) (v := a) HB.out hle) hle) hle) hle) hle) hle) hle
  have hg : w.heap.size + 1 < ((w.alloc (.cells #[.slice A0 l0.length c0, .int .i64 s0, .slice A1 l1.length c1, .int .i64 s1, .int .i64 fuse, .int .i64 keep, .bool down] 74)).alloc (.cells #[.slice none 0 0, .int .i64 0, .slice none 0 0, .int .i64 0, .int .i64 0, .int .i64 0, .bool false] 74)).heap.size := by rw [HBS.out]; omega
  refine bodyPost_ret (results_ct rfl _ _ (w.heap.size + 1) 74 _ (0, 0) _ rfl (sp.set7 HZ.out) Try.underlying74 rfl (by kernel_rfl)) rfl ?_
  exact ⟨_, _, rfl, sp.Row.fin _ _ _ _ _ _ _ HS0.out HS1.out H0.out hg HBB.out.size (hfin _ _ _ _ _ _ _), sp.Row.fin _ _ _ _ _ _ _ HS0.out HS1.out H2.out hg HBB.out.size (hfin _ _ _ _ _ _ _), hfin _ _ _ _ _ _ _⟩
theorem sp.smore {A0 : Option Addr} {c0 : Nat} {l0 : List Int} {s0 : Int} {A1 : Option Addr} {c1 : Nat} {l1 : List Int} {s1 fuse keep k : Int} {W w : World} {P0 P2 : Nat → Prop} {down : Bool} {r : List Int × Int × List Int × Int × Int × Int × Bool × Int} {full : Bool} {g1 g2 : Nat} {Bb Bt : Option Addr} {cb ct : Nat} {b t : List Int} (hbW : Below w.heap.size w W) (hs0 : Kd.V (Kd.int .u8) 5 w w.heap.size P0 (.slice A0 l0.length c0) l0) (hs1 : Kd.V (Kd.int .u8) 5 w w.heap.size P2 (.slice A1 l1.length c1) l1)
    (hg1 : W.heap[g1]? = some (.cells #[.slice Bb b.length cb] 22 (0, 0))) (hg2 : W.heap[g2]? = some (.cells #[.slice Bt t.length ct] 22 (0, 0))) (hb : Kd.C (Kd.int .u8) w Bb b.length b) (hbc : b.length ≤ cb) (ht : Kd.C (Kd.int .u8) w Bt t.length t) (htc : t.length ≤ ct)
    (h : sp.f (dk.right l0.length s0 l1.length s1 fuse keep && (decide (0 ≤ k) && decide (k < 2))) full down l0 s0 l1 s1 fuse keep ((slices_Concat_byte_byte.f [if k = 0 then l0 else l1, t]).bind fun x => some (if k = 0 then (x, s0, l1, s1) else (l0, s0, x, s1))) ((slices_Concat_byte_byte.f [if k = 0 then l0 else l1, b]).bind fun x => some (if k = 0 then (x, s0, l1, s1) else (l0, s0, x, s1))) = some r) :
    Calls Try.prog 96 #[.agg #[.slice A0 l0.length c0, .int .i64 s0, .slice A1 l1.length c1, .int .i64 s1, .int .i64 fuse, .int .i64 keep, .bool down], .int .i64 k, .bool full, .agg #[.func (.func 109) #[] #[.pointer (some ⟨g1, 0, none⟩)], .func (.func 109) #[] #[.pointer (some ⟨g2, 0, none⟩)]]] W (sp.Post W A0 c0 l0 A1 c1 l1 r) := by
  by_cases hn : (dk.right l0.length s0 l1.length s1 fuse keep && (decide (0 ≤ k) && decide (k < 2))) = true ∧ down = false ∧ full = false
  case neg => exact sp.refused _ _ rfl rfl hn h
  obtain ⟨hok, rfl, rfl⟩ := hn
  unfold sp.f at h
  rw [if_pos hok, if_neg (by decide), if_neg (by decide)] at h
  simp only [Bool.and_eq_true, decide_eq_true_eq] at hok
  obtain ⟨hr, k0, k2⟩ := hok
  by_cases hf : fuse = 0
  · subst hf
    rw [if_pos rfl] at h
    replace h := Option.bind_eq_some_iff.1 h
    obtain ⟨z, hz, h⟩ := h
    replace hz := Option.bind_eq_some_iff.1 hz
    obtain ⟨x, hx, hz⟩ := hz
    obtain rfl := Option.some.inj hz
    replace h := Option.bind_eq_some_iff.1 h
    obtain ⟨q, hq, h⟩ := h
    obtain rfl := Option.some.inj h
    rcases (show k = 0 ∨ k = 1 by omega) with rfl | rfl
    · rw [if_pos rfl] at hx
      simp only [if_true] at hq
      exact (sp.burn109_0 A0 c0 l0 s0 A1 c1 l1 s1 keep g1 g2 x q.1 q.2.1 q.2.2.1 q.2.2.2.1 q.2.2.2.2.1 q.2.2.2.2.2.1 q.2.2.2.2.2.2 W (Kd.C_below (Kd.V_reads' hs0).2.2 hbW) (Kd.V_reads' hs0).2.1 (Kd.C_below (Kd.V_reads' hs1).2.2 hbW) (Kd.V_reads' hs1).2.1 (sp.right hr) (fun W' hb' => mv.more A0 c0 l0 s0 g2 Bt ct t x W' (Kd.C_below (Kd.V_reads' hs0).2.2 (below_step hbW hb')) (Kd.V_reads' hs0).2.1 (Kd.C_below ht (below_step hbW hb')) htc (blk_below hg2 hb') hx) hq).mono (fun _ _ ⟨v0, v2, e_, h0_, h2_, hb_⟩ => ⟨v0, v2, e_, .inr (.inr h0_), .inr (.inr h2_), hb_⟩)
    · rw [if_neg (by decide)] at hx
      rw [if_neg (show ¬ (1 : Int) = 0 by decide)] at hq
      exact (sp.burn109_1 A0 c0 l0 s0 A1 c1 l1 s1 keep g1 g2 x q.1 q.2.1 q.2.2.1 q.2.2.2.1 q.2.2.2.2.1 q.2.2.2.2.2.1 q.2.2.2.2.2.2 W (Kd.C_below (Kd.V_reads' hs0).2.2 hbW) (Kd.V_reads' hs0).2.1 (Kd.C_below (Kd.V_reads' hs1).2.2 hbW) (Kd.V_reads' hs1).2.1 (sp.right hr) (fun W' hb' => mv.more A1 c1 l1 s1 g2 Bt ct t x W' (Kd.C_below (Kd.V_reads' hs1).2.2 (below_step hbW hb')) (Kd.V_reads' hs1).2.1 (Kd.C_below ht (below_step hbW hb')) htc (blk_below hg2 hb') hx) hq).mono (fun _ _ ⟨v0, v2, e_, h0_, h2_, hb_⟩ => ⟨v0, v2, e_, .inr (.inr h0_), .inr (.inr h2_), hb_⟩)
  · rw [if_neg hf] at h
    replace h := Option.bind_eq_some_iff.1 h
    obtain ⟨z, hz, h⟩ := h
    replace hz := Option.bind_eq_some_iff.1 hz
    obtain ⟨x, hx, hz⟩ := hz
    obtain rfl := Option.some.inj hz
    rcases (show k = 0 ∨ k = 1 by omega) with rfl | rfl
    · rw [if_pos rfl] at hx h
      by_cases hd : 0 < fuse
      · rw [if_pos hd] at h
        obtain rfl := Option.some.inj h
        exact (sp.dec109_0 A0 c0 l0.length s0 A1 c1 l1.length s1 fuse keep g1 g2 x W (sp.right hr) (fun W' hb' => mv.more A0 c0 l0 s0 g1 Bb cb b x W' (Kd.C_below (Kd.V_reads' hs0).2.2 (below_step hbW hb')) (Kd.V_reads' hs0).2.1 (Kd.C_below hb (below_step hbW hb')) hbc (blk_below hg1 hb') hx) hd).mono (fun _ _ ⟨v0, e_, h0_, hb_⟩ => ⟨v0, .slice A1 l1.length c1, e_, .inr (.inr h0_), .inr (.inl ⟨rfl, rfl⟩), hb_⟩)
      · rw [if_neg hd] at h
        obtain rfl := Option.some.inj h
        exact (sp.free109_0 A0 c0 l0.length s0 A1 c1 l1.length s1 fuse keep g1 g2 x W (sp.right hr) (fun W' hb' => mv.more A0 c0 l0 s0 g1 Bb cb b x W' (Kd.C_below (Kd.V_reads' hs0).2.2 (below_step hbW hb')) (Kd.V_reads' hs0).2.1 (Kd.C_below hb (below_step hbW hb')) hbc (blk_below hg1 hb') hx) (by omega)).mono (fun _ _ ⟨v0, e_, h0_, hb_⟩ => ⟨v0, .slice A1 l1.length c1, e_, .inr (.inr h0_), .inr (.inl ⟨rfl, rfl⟩), hb_⟩)
    · rw [if_neg (by decide)] at hx
      rw [if_neg (show ¬ (1 : Int) = 0 by decide)] at h
      by_cases hd : 0 < fuse
      · rw [if_pos hd] at h
        obtain rfl := Option.some.inj h
        exact (sp.dec109_1 A0 c0 l0.length s0 A1 c1 l1.length s1 fuse keep g1 g2 x W (sp.right hr) (fun W' hb' => mv.more A1 c1 l1 s1 g1 Bb cb b x W' (Kd.C_below (Kd.V_reads' hs1).2.2 (below_step hbW hb')) (Kd.V_reads' hs1).2.1 (Kd.C_below hb (below_step hbW hb')) hbc (blk_below hg1 hb') hx) hd).mono (fun _ _ ⟨v0, e_, h0_, hb_⟩ => ⟨.slice A0 l0.length c0, v0, e_, .inl ⟨rfl, rfl⟩, .inr (.inr h0_), hb_⟩)
      · rw [if_neg hd] at h
        obtain rfl := Option.some.inj h
        exact (sp.free109_1 A0 c0 l0.length s0 A1 c1 l1.length s1 fuse keep g1 g2 x W (sp.right hr) (fun W' hb' => mv.more A1 c1 l1 s1 g1 Bb cb b x W' (Kd.C_below (Kd.V_reads' hs1).2.2 (below_step hbW hb')) (Kd.V_reads' hs1).2.1 (Kd.C_below hb (below_step hbW hb')) hbc (blk_below hg1 hb') hx) (by omega)).mono (fun _ _ ⟨v0, e_, h0_, hb_⟩ => ⟨.slice A0 l0.length c0, v0, e_, .inl ⟨rfl, rfl⟩, .inr (.inr h0_), hb_⟩)


end Go.Proofs.Ytnpkhkhlofkbhaa.PDiskRight
