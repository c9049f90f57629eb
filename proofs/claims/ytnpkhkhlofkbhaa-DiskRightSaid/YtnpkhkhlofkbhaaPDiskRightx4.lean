-- made by a program of this session (its printer) out of what Lean prints of the given program
import Derived.Test.YtnpkhkhlofkbhaaPDiskRightx0
import Derived.Test.YtnpkhkhlofkbhaaPDiskRightx1
import Derived.Test.YtnpkhkhlofkbhaaPDiskRightx2
import Derived.Test.YtnpkhkhlofkbhaaPDiskRightx3
namespace Go.Proofs.Ytnpkhkhlofkbhaa.PDiskRight
open Go.RowKit Go.Proofs.YtnpkhkhlofkbhaaW.PrintWords Go.Proofs.YtnpkhkhlofkbhaaW.PrintLast Go.Proofs.YtnpkhkhlofkbhaaW.PrintMore
attribute [local go_sem] max2_int min2_int max_two min_two max_three min_three max_four min_four   -- for this text's walks alone
set_option linter.unusedVariables false
set_option linter.unusedSimpArgs false

/-! ### wristbandref17_Lose: function 102 -/
/-- The disk's block, the result's, and the area's. -/
structure ls.St (w W : World) (g : Nat) (x0 x1 x2 x3 x4 x5 x6 y0 y1 : Value) : Prop where
  d : W.heap[w.heap.size]? = some (.cells #[x0, x1, x2, x3, x4, x5, x6] 74)
  z : W.heap[w.heap.size + 1]? = some (.cells #[.slice none 0 0, .int .i64 0, .slice none 0 0, .int .i64 0, .int .i64 0, .int .i64 0, .bool false] 74)
  a : W.heap[g]? = some (.cells #[y0, y1] 71)
  b : Below w.heap.size w W
  k : w.heap.size + 1 < g
section
variable {w W W' : World} {g : Nat} {x0 x1 x2 x3 x4 x5 x6 y0 y1 : Value}
theorem ls.St.below (h : ls.St w W g x0 x1 x2 x3 x4 x5 x6 y0 y1) (hb : Below W.heap.size W W') : ls.St w W' g x0 x1 x2 x3 x4 x5 x6 y0 y1 := ⟨blk_below h.d hb, blk_below h.z hb, blk_below h.a hb, below_step h.b hb, h.k⟩
theorem ls.St.drew (h : ls.St w W g x0 x1 x2 x3 x4 x5 x6 y0 y1) : ls.St w W.drew g x0 x1 x2 x3 x4 x5 x6 y0 y1 := ⟨blk_drew h.d, blk_drew h.z, blk_drew h.a, below_drew1 h.b, h.k⟩
theorem ls.St.dl (h : ls.St w W g x0 x1 x2 x3 x4 x5 x6 y0 y1) : dl.St w W x0 x1 x2 x3 x4 x5 x6 := ⟨h.d, h.z, h.b⟩
theorem ls.St.of (h : dl.St w W x0 x1 x2 x3 x4 x5 x6) (y0 y1 : Value) : ls.St w (W.alloc (.cells #[y0, y1] 71)) W.heap.size x0 x1 x2 x3 x4 x5 x6 y0 y1 := ⟨blk_alloc h.d _, blk_alloc h.z _, blk_new _ _, below_alloc h.b _, blk_lt h.z⟩
end
/-- How many bytes more stay. -/
def ls.d (n : Nat) (s keep : Int) : Nat := if keep ≤ 0 then 0 else if s + keep ≤ (n : Int) then keep.toNat else ((n : Int) - s).toNat
structure ls.D (n : Nat) (s a : Int) (m : Nat) : Prop where
  p : 0 ≤ s
  t : s + (m : Int) ≤ (n : Int)
  r : (m : Int) ≤ a ∨ m = 0
  n : (n : Int) < 9223372036854775808
  a : a < 9223372036854775808
theorem ls.D.of {n : Nat} {s a : Int} (h0 : 0 ≤ s) (h1 : s ≤ (n : Int)) (hn : (n : Int) < 9223372036854775808) (ha : a < 9223372036854775808) : ls.D n s a (ls.d n s a) ∧ (a ≤ (ls.d n s a : Int) ∨ ((ls.d n s a : Int) < a ∧ s + (ls.d n s a : Int) = (n : Int))) := by
  unfold ls.d
  split
  · exact ⟨⟨h0, by omega, .inr rfl, hn, ha⟩, .inl (by omega)⟩
  · split
    · exact ⟨⟨h0, by omega, .inl (by omega), hn, ha⟩, .inl (by omega)⟩
    · exact ⟨⟨h0, by omega, .inl (by omega), hn, ha⟩, .inr ⟨by omega, by omega⟩⟩
section
variable {n : Nat} {s a : Int} {m j : Nat}
theorem ls.D.b1 (h : ls.D n s a m) (hj : j < m) : decide (0 < a - (j : Int)) = true := decide_eq_true (by have := h.r; omega)
theorem ls.D.b3 (h : ls.D n s a m) (hj : j < m) : decide ((j : Int) < a) = true := decide_eq_true (by have := h.r; omega)
theorem ls.D.b2 (h : ls.D n s a m) (hj : j < m) : decide (s + (j : Int) < (n : Int)) = true := decide_eq_true (by have := h.t; omega)
theorem ls.D.w1 (h : ls.D n s a m) (hj : j < m) : Value.int .i64 (wrap64 (s + (j : Int) + 1)) = .int .i64 (s + ((j + 1 : Nat) : Int)) := congrArg _ (by have h1 := h.t; have h2 := h.p; have h3 := h.n; unfold wrap64; omega)
theorem ls.D.w2 (h : ls.D n s a m) (hj : j < m) : Value.int .i64 (wrap64 (a - (j : Int) - 1)) = .int .i64 (a - ((j + 1 : Nat) : Int)) := congrArg _ (by have h1 := h.r; have h2 := h.a; unfold wrap64; omega)
end
set_option maxHeartbeats 3200000 in
set_option maxRecDepth 100000 in
theorem ls.walk_aa (A0 : Option Addr) (c0 : Nat) (l0 : List Int) (s0 : Int) (A1 : Option Addr) (c1 : Nat) (l1 : List Int) (s1 fuse keep a1 : Int) (down : Bool) (w : World) (m0 m1 : Nat) (y0 y1 : List Int) (hD0 : ls.D l0.length s0 a1 m0) (hD1 : ls.D l1.length s1 a1 m1) (hE0 : a1 ≤ (m0 : Int)) (hE1 : a1 ≤ (m1 : Int)) (hy0 : l0.take (s0 + (m0 : Int)).toNat = y0) (hy1 : l1.take (s1 + (m1 : Int)).toNat = y1)
    (hr0 : Kd.C (Kd.int .u8) w A0 l0.length l0) (hc0 : l0.length ≤ c0) (hr1 : Kd.C (Kd.int .u8) w A1 l1.length l1) (hc1 : l1.length ≤ c1) (hl0 : l0.length < 140737488355328) (hl1 : l1.length < 140737488355328) :
    Calls Try.prog 102 #[.agg #[.slice A0 l0.length c0, .int .i64 s0, .slice A1 l1.length c1, .int .i64 s1, .int .i64 fuse, .int .i64 keep, .bool down], .int .i64 a1] w fun e w' => ∃ v0_ v2_ : Value, e = .returned (.agg #[v0_, .int .i64 (s0 + (m0 : Int)), v2_, .int .i64 (s1 + (m1 : Int)), .int .i64 (-1), .int .i64 keep, .bool true]) ∧ Kd.R (Kd.int .u8) 5 w' w.heap.size (fun k_ => some k_ ≠ (v2_ : Value).ownBlock) v0_ y0 ∧ Kd.R (Kd.int .u8) 5 w' w.heap.size (fun k_ => some k_ ≠ (v0_ : Value).ownBlock) v2_ y1 ∧ Below w.heap.size w w' := by
  obtain ⟨i0, hi0, _, hsz, _⟩ := info_parts info5
  have hcut0 := cut_to (P := Try.prog) 22 5 .i64 Try.underlying22 hi0 A0 l0.length c0 (s0 + (m0 : Int)) (by have := hD0.p; omega) hD0.t hc0
  have hcut1 := cut_to (P := Try.prog) 22 5 .i64 Try.underlying22 hi0 A1 l1.length c1 (s1 + (m1 : Int)) (by have := hD1.p; omega) hD1.t hc1
  have hq0 : y0.length = (s0 + (m0 : Int)).toNat := by have := hD0.p; have := hD0.t; rw [← hy0, List.length_take]; omega
  have hq1 : y1.length = (s1 + (m1 : Int)).toNat := by have := hD1.p; have := hD1.t; rw [← hy1, List.length_take]; omega
  have k0 : Kd.C (Kd.int .u8) w A0 y0.length y0 := by rw [← hy0]; exact Kd.C_take (m := (s0 + (m0 : Int)).toNat) hr0 (by have := hD0.p; have := hD0.t; omega)
  have k1 : Kd.C (Kd.int .u8) w A1 y1.length y1 := by rw [← hy1]; exact Kd.C_take (m := (s1 + (m1 : Int)).toNat) hr1 (by have := hD1.p; have := hD1.t; omega)
  rw [← hq0] at hcut0
  rw [← hq1] at hcut1
  obtain ⟨b0, b1, bb, bs⟩ := dl.two w (.cells #[.slice A0 l0.length c0, .int .i64 s0, .slice A1 l1.length c1, .int .i64 s1, .int .i64 fuse, .int .i64 keep, .bool down] 74) (.cells #[.slice none 0 0, .int .i64 0, .slice none 0 0, .int .i64 0, .int .i64 0, .int .i64 0, .bool false] 74)
  have HS := Aside0.mk (dl.St.mk b0 b1 bb)
  have HD0 := Aside0.mk hD0
  have HD1 := Aside0.mk hD1
  have HE0 := Aside0.mk hE0
  have HE1 := Aside0.mk hE1
  have HK0 := Aside0.mk k0
  have HK1 := Aside0.mk k1
  have HL0 := Aside0.mk (show y0.length < 140737488355328 by have := hD0.p; have := hD0.t; omega)
  have HL1 := Aside0.mk (show y1.length < 140737488355328 by have := hD1.p; have := hD1.t; omega)
  clear hr0 hr1 hc0 hc1 hi0 hsz hD0 hD1 hE0 hE1 k0 k1 hl0 hl1 b0 b1 bb bs hq0 hq1 hy0 hy1
  go_enter Try.func102, Try.ntmps102
  go_wp2
  generalize (w.alloc (.cells #[.slice A0 l0.length c0, .int .i64 s0, .slice A1 l1.length c1, .int .i64 s1, .int .i64 fuse, .int .i64 keep, .bool down] 74)).alloc (.cells #[.slice none 0 0, .int .i64 0, .slice none 0 0, .int .i64 0, .int .i64 0, .int .i64 0, .bool false] 74) = W2 at HS ⊢
  have hd0 := (blk_cell HS.out.d 0).trans rfl; have hd1 := (blk_cell HS.out.d 1).trans rfl
  refine wp_loop_rounds 3 ?_
  rw [rounds_succ]
  go_wp2
  go_loopg [7, 8] (m0 + 1) (fun kq v7 v8 w' => ∃ j : Nat, v7 = .int .i64 (s0 + (j : Int)) ∧ v8 = .int .i64 (a1 - (j : Int)) ∧ j ≤ m0 ∧ Aside0 (m0 < kq + j) ∧ Aside0 (kq ≤ m0 + 1) ∧ w' = W2.alloc (.cells #[.slice A0 l0.length c0, .int .i64 s0] 71))
  case atStart => exact ⟨0, by simp, by simp, Nat.zero_le _, ⟨by omega⟩, ⟨Nat.le_refl _⟩, rfl⟩
  case round =>
    obtain ⟨j, rfl, rfl, hj, HF, HK, hw⟩ := hrel
    subst hw
    rcases Nat.lt_or_ge j m0 with hlt | hge
    · have b1 := HD0.out.b1 hlt
      have b2 := HD0.out.b2 hlt
      have b3 := HD0.out.b3 hlt
      have HLT := Aside0.mk hlt
      clear hlt hj
      go_wp2
      obtain ⟨k2, hk2⟩ : ∃ k2, gk = k2 + 1 := ⟨gk - 1, by have := HF.out; have := HLT.out; omega⟩
      subst hk2
      go_roundg k2
      case measure => have := HK.out; omega
      case rel => exact ⟨j + 1, HD0.out.w1 HLT.out, HD0.out.w2 HLT.out, HLT.out, ⟨by have := HF.out; omega⟩, ⟨by have := HK.out; omega⟩, rfl⟩
    · obtain rfl : m0 = j := by omega
      clear hge hj HF HK
      have b1 : decide (0 < a1 - (m0 : Int)) = false := decide_eq_false (by have := HE0.out; omega)
      have b3 : decide ((m0 : Int) < a1) = false := decide_eq_false (by have := HE0.out; omega)
      go_wp2_with (first
        | ((with_reducible refine gate_dst (N := 34) rfl ?_); refine Kd.R_lit (Kd.int .u8) _ 5 ?hg (N := 34) ?hd (xs := ([] : List Int)) (inner := []) (ok := fun _ => True) (okp := fun _ => True) ?hr ?hp (fun _ hk => hk) trivial (Below.refl _ _) (Nat.le_refl _) (by simp) ?_; (case hd => rfl); (case hg => rfl); (case hr => first | (go_simp; done) | (go_simp; rfl)); (case hp => exact (Reps.none _ _)); intro v1 w1 ho hb _ _; have HO := Aside0.mk ho; have HB := Aside0.mk hb; have HS1 := Aside0.mk ((ls.St.of HS.out (.slice A0 l0.length c0) (.int .i64 s0)).below hb); have ca0 := (blk_cell HS1.out.a 0).trans rfl; clear ho hb)
        | ((with_reducible refine gate_builtin (b := .append) (xs := #[.tmp 34, .tmp 38]) rfl ?_); at_builtin; refine Kd.R_append_rows (Kd.int .u8) (w0 := W2.alloc (.cells #[.slice A0 l0.length c0, .int .i64 s0] 71)) (W2.alloc (.cells #[.slice A0 l0.length c0, .int .i64 s0] 71)).heap.size rfl (.tmp 34) (.tmp 38) 22 5 (.int .u8 0) 1 rfl Try.underlying22 info5 rfl (by decide) (by omega) v1 [] y0 _ _ _ (fun _ => True) (fun _ => False) rfl rfl ?aO ?aR (fun _ _ h => h) (fun _ h => h.elim) ?aF ?aB ?aS ?aL ?_; (case aR => exact Kd.C_below HK0.out HS1.out.b); (case aB => exact HB.out); (case aF => exact (fun _ _ => trivial)); (case aO => exact HO.out); (case aS => exact HB.out.size); (case aL => have := HL0.out; simp only [List.length_nil]; omega); intro v2 w2 ho hb hg hat; rw [List.nil_append] at ho; obtain ⟨Av, Ac, rfl⟩ := Kd.R_slice ho; have HO2 := Aside0.mk (Kd.R_lower (Kd.R_mono (Kd.R_bound ho) (fun k_ hk => show w.heap.size + 1 < k_ from Nat.lt_of_lt_of_le (blk_lt ((ls.St.of HS.out (.slice A0 l0.length c0) (.int .i64 s0))).z) hk.2.1)) ((ls.St.of HS.out (.slice A0 l0.length c0) (.int .i64 s0))).b.size); have hs2 := (ls.St.of HS.out (.slice A0 l0.length c0) (.int .i64 s0)).below hb; have HS2 := Aside0.mk hs2; have cd0 := (blk_cell hs2.d 0).trans rfl; have fd0 := blk_frozen hs2.d 0; have cd1 := (blk_cell hs2.d 1).trans rfl; have fd1 := blk_frozen hs2.d 1; have hz2 := blk_lt hs2.d; clear ho hb hg hat hs2))
      rw [rounds_succ]
      have HS3 := Aside0.mk ((HS2.out.dl.set 0 (.slice Av y0.length Ac) rfl).set 1 (.int .i64 (s0 + (m0 : Int))) rfl)
      have HO3 := Aside0.mk (dl.mv (i := 1) (x := .int .i64 (s0 + (m0 : Int))) (show w.heap.size ≤ w.heap.size + 1 by omega) (fun k_ hk => hk) (dl.mv (i := 0) (x := .slice Av y0.length Ac) (show w.heap.size ≤ w.heap.size + 1 by omega) (fun k_ hk => hk) HO2.out))
      clear HS2 HO2 HO HB HS1 ca0 cd0 cd1 fd0 fd1 hz2 b1 b3
      generalize (w2.setCell { block := w.heap.size, off := 0 } (.slice Av y0.length Ac)).setCell { block := w.heap.size, off := 1 } (.int .i64 (s0 + (m0 : Int))) = W3 at HS3 HO3 ⊢
      have hd2 := (blk_cell HS3.out.d 2).trans rfl; have hd3 := (blk_cell HS3.out.d 3).trans rfl
      go_wp2
      go_loopg [7, 8] (m1 + 1) (fun kq v7 v8 w' => ∃ j : Nat, v7 = .int .i64 (s1 + (j : Int)) ∧ v8 = .int .i64 (a1 - (j : Int)) ∧ j ≤ m1 ∧ Aside0 (m1 < kq + j) ∧ Aside0 (kq ≤ m1 + 1) ∧ w' = W3.alloc (.cells #[.slice A1 l1.length c1, .int .i64 s1] 71))
      case atStart => exact ⟨0, by simp, by simp, Nat.zero_le _, ⟨by omega⟩, ⟨Nat.le_refl _⟩, rfl⟩
      case round =>
        obtain ⟨j, rfl, rfl, hj, HF, HK, hw⟩ := hrel
        subst hw
        rcases Nat.lt_or_ge j m1 with hlt | hge
        · have b1 := HD1.out.b1 hlt
          have b2 := HD1.out.b2 hlt
          have b3 := HD1.out.b3 hlt
          have HLT := Aside0.mk hlt
          clear hlt hj
          go_wp2
          obtain ⟨k2, hk2⟩ : ∃ k2, gk = k2 + 1 := ⟨gk - 1, by have := HF.out; have := HLT.out; omega⟩
          subst hk2
          go_roundg k2
          case measure => have := HK.out; omega
          case rel => exact ⟨j + 1, HD1.out.w1 HLT.out, HD1.out.w2 HLT.out, HLT.out, ⟨by have := HF.out; omega⟩, ⟨by have := HK.out; omega⟩, rfl⟩
        · obtain rfl : m1 = j := by omega
          clear hge hj HF HK
          have b1 : decide (0 < a1 - (m1 : Int)) = false := decide_eq_false (by have := HE1.out; omega)
          have b3 : decide ((m1 : Int) < a1) = false := decide_eq_false (by have := HE1.out; omega)
          go_wp2_with (first
            | ((with_reducible refine gate_dst (N := 34) rfl ?_); refine Kd.R_lit (Kd.int .u8) _ 5 ?hg (N := 34) ?hd (xs := ([] : List Int)) (inner := []) (ok := fun _ => True) (okp := fun _ => True) ?hr ?hp (fun _ hk => hk) trivial (Below.refl _ _) (Nat.le_refl _) (by simp) ?_; (case hd => rfl); (case hg => rfl); (case hr => first | (go_simp; done) | (go_simp; rfl)); (case hp => exact (Reps.none _ _)); intro v1 w1 ho hb _ _; have HO := Aside0.mk ho; have HB := Aside0.mk hb; have HS1 := Aside0.mk ((ls.St.of HS3.out (.slice A1 l1.length c1) (.int .i64 s1)).below hb); have ca0 := (blk_cell HS1.out.a 0).trans rfl; clear ho hb)
            | ((with_reducible refine gate_builtin (b := .append) (xs := #[.tmp 34, .tmp 38]) rfl ?_); at_builtin; refine Kd.R_append_rows (Kd.int .u8) (w0 := W3.alloc (.cells #[.slice A1 l1.length c1, .int .i64 s1] 71)) (W3.alloc (.cells #[.slice A1 l1.length c1, .int .i64 s1] 71)).heap.size rfl (.tmp 34) (.tmp 38) 22 5 (.int .u8 0) 1 rfl Try.underlying22 info5 rfl (by decide) (by omega) v1 [] y1 _ _ _ (fun _ => True) (fun _ => False) rfl rfl ?aO ?aR (fun _ _ h => h) (fun _ h => h.elim) ?aF ?aB ?aS ?aL ?_; (case aR => exact Kd.C_below HK1.out HS1.out.b); (case aB => exact HB.out); (case aF => exact (fun _ _ => trivial)); (case aO => exact HO.out); (case aS => exact HB.out.size); (case aL => have := HL1.out; simp only [List.length_nil]; omega); intro v2 w2 ho hb hg hat; rw [List.nil_append] at ho; obtain ⟨Bv, Bc, rfl⟩ := Kd.R_slice ho; have HOA := Aside0.mk (Kd.R_elder' (Kd.R_alloc HO3.out _) (Kd.R_base ho) hb); have HOB := Aside0.mk (Kd.R_lower (Kd.R_mono (Kd.R_bound (Kd.R_new' ho (Kd.R_lt (Kd.R_alloc HO3.out _)))) (fun k_ hk => (⟨Nat.lt_of_lt_of_le (blk_lt ((ls.St.of HS3.out (.slice A1 l1.length c1) (.int .i64 s1))).z) hk.2.1, hk.1.2⟩ : w.heap.size + 1 < k_ ∧ _))) ((ls.St.of HS3.out (.slice A1 l1.length c1) (.int .i64 s1))).b.size); have hs2 := (ls.St.of HS3.out (.slice A1 l1.length c1) (.int .i64 s1)).below hb; have HS2 := Aside0.mk hs2; have cd0 := (blk_cell hs2.d 0).trans rfl; have fd0 := blk_frozen hs2.d 0; have cd1 := (blk_cell hs2.d 1).trans rfl; have fd1 := blk_frozen hs2.d 1; have cd2 := (blk_cell hs2.d 2).trans rfl; have fd2 := blk_frozen hs2.d 2; have cd3 := (blk_cell hs2.d 3).trans rfl; have fd3 := blk_frozen hs2.d 3; have cd4 := (blk_cell hs2.d 4).trans rfl; have fd4 := blk_frozen hs2.d 4; have cd5 := (blk_cell hs2.d 5).trans rfl; have fd5 := blk_frozen hs2.d 5; have cd6 := (blk_cell hs2.d 6).trans rfl; have fd6 := blk_frozen hs2.d 6; have cz0 := (blk_cell hs2.z 0).trans rfl; have fz0 := blk_frozen hs2.z 0; have cz1 := (blk_cell hs2.z 1).trans rfl; have fz1 := blk_frozen hs2.z 1; have cz2 := (blk_cell hs2.z 2).trans rfl; have fz2 := blk_frozen hs2.z 2; have cz3 := (blk_cell hs2.z 3).trans rfl; have fz3 := blk_frozen hs2.z 3; have cz4 := (blk_cell hs2.z 4).trans rfl; have fz4 := blk_frozen hs2.z 4; have cz5 := (blk_cell hs2.z 5).trans rfl; have fz5 := blk_frozen hs2.z 5; have cz6 := (blk_cell hs2.z 6).trans rfl; have fz6 := blk_frozen hs2.z 6; have hz2 := blk_lt hs2.z; clear ho hb hg hat hs2))
          rw [rounds_succ]
          go_wp2
          refine bodyPost_ret (results_single rfl (.cell (w.heap.size + 1) 74 _ (0, 0) _ rfl (dl.set7 ((((HS2.out.dl.set 2 _ rfl).set 3 _ rfl).set 6 _ rfl).set 4 _ rfl).z) Try.underlying74 rfl (by kernel_rfl) .nil)) rfl ?_
          have hB : w.heap.size ≤ w.heap.size + 1 := by omega
          refine ⟨_, _, rfl, ?_, ?_, dl.below7 _ _ _ _ _ _ _ ((((HS2.out.dl.set 2 _ rfl).set 3 _ rfl).set 6 _ rfl).set 4 _ rfl).b⟩
          · exact Kd.R_mono (dl.far7 _ _ _ _ _ _ _ (dl.mv hB (fun k_ hk => hk.1) (dl.mv hB (fun k_ hk => hk.1) (dl.mv hB (fun k_ hk => hk.1) (dl.mv hB (fun k_ hk => hk.1) HOA.out)))) (fun k_ hk => by have h_ : w.heap.size + 1 < k_ := hk.1; omega)) (fun k_ hk => hk.2)
          · exact Kd.R_mono (dl.far7 _ _ _ _ _ _ _ (dl.mv hB (fun k_ hk => hk.1) (dl.mv hB (fun k_ hk => hk.1) (dl.mv hB (fun k_ hk => hk.1) (dl.mv hB (fun k_ hk => hk.1) HOB.out)))) (fun k_ hk => by have h_ : w.heap.size + 1 < k_ := hk.1; omega)) (fun k_ hk => hk.2)
set_option maxHeartbeats 3200000 in
set_option maxRecDepth 100000 in
theorem ls.walk_an (A0 : Option Addr) (c0 : Nat) (l0 : List Int) (s0 : Int) (A1 : Option Addr) (c1 : Nat) (l1 : List Int) (s1 fuse keep a1 : Int) (down : Bool) (w : World) (m0 m1 : Nat) (y0 y1 : List Int) (hD0 : ls.D l0.length s0 a1 m0) (hD1 : ls.D l1.length s1 a1 m1) (hE0 : a1 ≤ (m0 : Int)) (hE1 : (m1 : Int) < a1 ∧ s1 + (m1 : Int) = (l1.length : Int)) (hy0 : l0.take (s0 + (m0 : Int)).toNat = y0) (hy1 : l1.take (s1 + (m1 : Int)).toNat = y1)
    (hr0 : Kd.C (Kd.int .u8) w A0 l0.length l0) (hc0 : l0.length ≤ c0) (hr1 : Kd.C (Kd.int .u8) w A1 l1.length l1) (hc1 : l1.length ≤ c1) (hl0 : l0.length < 140737488355328) (hl1 : l1.length < 140737488355328) :
    Calls Try.prog 102 #[.agg #[.slice A0 l0.length c0, .int .i64 s0, .slice A1 l1.length c1, .int .i64 s1, .int .i64 fuse, .int .i64 keep, .bool down], .int .i64 a1] w fun e w' => ∃ v0_ v2_ : Value, e = .returned (.agg #[v0_, .int .i64 (s0 + (m0 : Int)), v2_, .int .i64 (s1 + (m1 : Int)), .int .i64 (-1), .int .i64 keep, .bool true]) ∧ Kd.R (Kd.int .u8) 5 w' w.heap.size (fun k_ => some k_ ≠ (v2_ : Value).ownBlock) v0_ y0 ∧ Kd.R (Kd.int .u8) 5 w' w.heap.size (fun k_ => some k_ ≠ (v0_ : Value).ownBlock) v2_ y1 ∧ Below w.heap.size w w' := by
  obtain ⟨i0, hi0, _, hsz, _⟩ := info_parts info5
  have hcut0 := cut_to (P := Try.prog) 22 5 .i64 Try.underlying22 hi0 A0 l0.length c0 (s0 + (m0 : Int)) (by have := hD0.p; omega) hD0.t hc0
  have hcut1 := cut_to (P := Try.prog) 22 5 .i64 Try.underlying22 hi0 A1 l1.length c1 (s1 + (m1 : Int)) (by have := hD1.p; omega) hD1.t hc1
  have hq0 : y0.length = (s0 + (m0 : Int)).toNat := by have := hD0.p; have := hD0.t; rw [← hy0, List.length_take]; omega
  have hq1 : y1.length = (s1 + (m1 : Int)).toNat := by have := hD1.p; have := hD1.t; rw [← hy1, List.length_take]; omega
  have k0 : Kd.C (Kd.int .u8) w A0 y0.length y0 := by rw [← hy0]; exact Kd.C_take (m := (s0 + (m0 : Int)).toNat) hr0 (by have := hD0.p; have := hD0.t; omega)
  have k1 : Kd.C (Kd.int .u8) w A1 y1.length y1 := by rw [← hy1]; exact Kd.C_take (m := (s1 + (m1 : Int)).toNat) hr1 (by have := hD1.p; have := hD1.t; omega)
  rw [← hq0] at hcut0
  rw [← hq1] at hcut1
  obtain ⟨b0, b1, bb, bs⟩ := dl.two w (.cells #[.slice A0 l0.length c0, .int .i64 s0, .slice A1 l1.length c1, .int .i64 s1, .int .i64 fuse, .int .i64 keep, .bool down] 74) (.cells #[.slice none 0 0, .int .i64 0, .slice none 0 0, .int .i64 0, .int .i64 0, .int .i64 0, .bool false] 74)
  have HS := Aside0.mk (dl.St.mk b0 b1 bb)
  have HD0 := Aside0.mk hD0
  have HD1 := Aside0.mk hD1
  have HE0 := Aside0.mk hE0
  have HE1 := Aside0.mk hE1
  have HK0 := Aside0.mk k0
  have HK1 := Aside0.mk k1
  have HL0 := Aside0.mk (show y0.length < 140737488355328 by have := hD0.p; have := hD0.t; omega)
  have HL1 := Aside0.mk (show y1.length < 140737488355328 by have := hD1.p; have := hD1.t; omega)
  clear hr0 hr1 hc0 hc1 hi0 hsz hD0 hD1 hE0 hE1 k0 k1 hl0 hl1 b0 b1 bb bs hq0 hq1 hy0 hy1
  go_enter Try.func102, Try.ntmps102
  go_wp2
  generalize (w.alloc (.cells #[.slice A0 l0.length c0, .int .i64 s0, .slice A1 l1.length c1, .int .i64 s1, .int .i64 fuse, .int .i64 keep, .bool down] 74)).alloc (.cells #[.slice none 0 0, .int .i64 0, .slice none 0 0, .int .i64 0, .int .i64 0, .int .i64 0, .bool false] 74) = W2 at HS ⊢
  have hd0 := (blk_cell HS.out.d 0).trans rfl; have hd1 := (blk_cell HS.out.d 1).trans rfl
  refine wp_loop_rounds 3 ?_
  rw [rounds_succ]
  go_wp2
  go_loopg [7, 8] (m0 + 1) (fun kq v7 v8 w' => ∃ j : Nat, v7 = .int .i64 (s0 + (j : Int)) ∧ v8 = .int .i64 (a1 - (j : Int)) ∧ j ≤ m0 ∧ Aside0 (m0 < kq + j) ∧ Aside0 (kq ≤ m0 + 1) ∧ w' = W2.alloc (.cells #[.slice A0 l0.length c0, .int .i64 s0] 71))
  case atStart => exact ⟨0, by simp, by simp, Nat.zero_le _, ⟨by omega⟩, ⟨Nat.le_refl _⟩, rfl⟩
  case round =>
    obtain ⟨j, rfl, rfl, hj, HF, HK, hw⟩ := hrel
    subst hw
    rcases Nat.lt_or_ge j m0 with hlt | hge
    · have b1 := HD0.out.b1 hlt
      have b2 := HD0.out.b2 hlt
      have b3 := HD0.out.b3 hlt
      have HLT := Aside0.mk hlt
      clear hlt hj
      go_wp2
      obtain ⟨k2, hk2⟩ : ∃ k2, gk = k2 + 1 := ⟨gk - 1, by have := HF.out; have := HLT.out; omega⟩
      subst hk2
      go_roundg k2
      case measure => have := HK.out; omega
      case rel => exact ⟨j + 1, HD0.out.w1 HLT.out, HD0.out.w2 HLT.out, HLT.out, ⟨by have := HF.out; omega⟩, ⟨by have := HK.out; omega⟩, rfl⟩
    · obtain rfl : m0 = j := by omega
      clear hge hj HF HK
      have b1 : decide (0 < a1 - (m0 : Int)) = false := decide_eq_false (by have := HE0.out; omega)
      have b3 : decide ((m0 : Int) < a1) = false := decide_eq_false (by have := HE0.out; omega)
      go_wp2_with (first
        | ((with_reducible refine gate_dst (N := 34) rfl ?_); refine Kd.R_lit (Kd.int .u8) _ 5 ?hg (N := 34) ?hd (xs := ([] : List Int)) (inner := []) (ok := fun _ => True) (okp := fun _ => True) ?hr ?hp (fun _ hk => hk) trivial (Below.refl _ _) (Nat.le_refl _) (by simp) ?_; (case hd => rfl); (case hg => rfl); (case hr => first | (go_simp; done) | (go_simp; rfl)); (case hp => exact (Reps.none _ _)); intro v1 w1 ho hb _ _; have HO := Aside0.mk ho; have HB := Aside0.mk hb; have HS1 := Aside0.mk ((ls.St.of HS.out (.slice A0 l0.length c0) (.int .i64 s0)).below hb); have ca0 := (blk_cell HS1.out.a 0).trans rfl; clear ho hb)
        | ((with_reducible refine gate_builtin (b := .append) (xs := #[.tmp 34, .tmp 38]) rfl ?_); at_builtin; refine Kd.R_append_rows (Kd.int .u8) (w0 := W2.alloc (.cells #[.slice A0 l0.length c0, .int .i64 s0] 71)) (W2.alloc (.cells #[.slice A0 l0.length c0, .int .i64 s0] 71)).heap.size rfl (.tmp 34) (.tmp 38) 22 5 (.int .u8 0) 1 rfl Try.underlying22 info5 rfl (by decide) (by omega) v1 [] y0 _ _ _ (fun _ => True) (fun _ => False) rfl rfl ?aO ?aR (fun _ _ h => h) (fun _ h => h.elim) ?aF ?aB ?aS ?aL ?_; (case aR => exact Kd.C_below HK0.out HS1.out.b); (case aB => exact HB.out); (case aF => exact (fun _ _ => trivial)); (case aO => exact HO.out); (case aS => exact HB.out.size); (case aL => have := HL0.out; simp only [List.length_nil]; omega); intro v2 w2 ho hb hg hat; rw [List.nil_append] at ho; obtain ⟨Av, Ac, rfl⟩ := Kd.R_slice ho; have HO2 := Aside0.mk (Kd.R_lower (Kd.R_mono (Kd.R_bound ho) (fun k_ hk => show w.heap.size + 1 < k_ from Nat.lt_of_lt_of_le (blk_lt ((ls.St.of HS.out (.slice A0 l0.length c0) (.int .i64 s0))).z) hk.2.1)) ((ls.St.of HS.out (.slice A0 l0.length c0) (.int .i64 s0))).b.size); have hs2 := (ls.St.of HS.out (.slice A0 l0.length c0) (.int .i64 s0)).below hb; have HS2 := Aside0.mk hs2; have cd0 := (blk_cell hs2.d 0).trans rfl; have fd0 := blk_frozen hs2.d 0; have cd1 := (blk_cell hs2.d 1).trans rfl; have fd1 := blk_frozen hs2.d 1; have hz2 := blk_lt hs2.d; clear ho hb hg hat hs2))
      rw [rounds_succ]
      have HS3 := Aside0.mk ((HS2.out.dl.set 0 (.slice Av y0.length Ac) rfl).set 1 (.int .i64 (s0 + (m0 : Int))) rfl)
      have HO3 := Aside0.mk (dl.mv (i := 1) (x := .int .i64 (s0 + (m0 : Int))) (show w.heap.size ≤ w.heap.size + 1 by omega) (fun k_ hk => hk) (dl.mv (i := 0) (x := .slice Av y0.length Ac) (show w.heap.size ≤ w.heap.size + 1 by omega) (fun k_ hk => hk) HO2.out))
      clear HS2 HO2 HO HB HS1 ca0 cd0 cd1 fd0 fd1 hz2 b1 b3
      generalize (w2.setCell { block := w.heap.size, off := 0 } (.slice Av y0.length Ac)).setCell { block := w.heap.size, off := 1 } (.int .i64 (s0 + (m0 : Int))) = W3 at HS3 HO3 ⊢
      have hd2 := (blk_cell HS3.out.d 2).trans rfl; have hd3 := (blk_cell HS3.out.d 3).trans rfl
      go_wp2
      go_loopg [7, 8] (m1 + 1) (fun kq v7 v8 w' => ∃ j : Nat, v7 = .int .i64 (s1 + (j : Int)) ∧ v8 = .int .i64 (a1 - (j : Int)) ∧ j ≤ m1 ∧ Aside0 (m1 < kq + j) ∧ Aside0 (kq ≤ m1 + 1) ∧ w' = W3.alloc (.cells #[.slice A1 l1.length c1, .int .i64 s1] 71))
      case atStart => exact ⟨0, by simp, by simp, Nat.zero_le _, ⟨by omega⟩, ⟨Nat.le_refl _⟩, rfl⟩
      case round =>
        obtain ⟨j, rfl, rfl, hj, HF, HK, hw⟩ := hrel
        subst hw
        rcases Nat.lt_or_ge j m1 with hlt | hge
        · have b1 := HD1.out.b1 hlt
          have b2 := HD1.out.b2 hlt
          have b3 := HD1.out.b3 hlt
          have HLT := Aside0.mk hlt
          clear hlt hj
          go_wp2
          obtain ⟨k2, hk2⟩ : ∃ k2, gk = k2 + 1 := ⟨gk - 1, by have := HF.out; have := HLT.out; omega⟩
          subst hk2
          go_roundg k2
          case measure => have := HK.out; omega
          case rel => exact ⟨j + 1, HD1.out.w1 HLT.out, HD1.out.w2 HLT.out, HLT.out, ⟨by have := HF.out; omega⟩, ⟨by have := HK.out; omega⟩, rfl⟩
        · obtain rfl : m1 = j := by omega
          clear hge hj HF HK
          have b1 : decide (0 < a1 - (m1 : Int)) = true := decide_eq_true (by have := HE1.out; omega)
          have b3 : decide ((m1 : Int) < a1) = true := decide_eq_true (by have := HE1.out; omega)
          have b2 : decide (s1 + (m1 : Int) < (l1.length : Int)) = false := decide_eq_false (by have := HE1.out; omega)
          go_wp2_with (first
            | ((with_reducible refine gate_dst (N := 34) rfl ?_); refine Kd.R_lit (Kd.int .u8) _ 5 ?hg (N := 34) ?hd (xs := ([] : List Int)) (inner := []) (ok := fun _ => True) (okp := fun _ => True) ?hr ?hp (fun _ hk => hk) trivial (Below.refl _ _) (Nat.le_refl _) (by simp) ?_; (case hd => rfl); (case hg => rfl); (case hr => first | (go_simp; done) | (go_simp; rfl)); (case hp => exact (Reps.none _ _)); intro v1 w1 ho hb _ _; have HO := Aside0.mk ho; have HB := Aside0.mk hb; have HS1 := Aside0.mk ((ls.St.of HS3.out (.slice A1 l1.length c1) (.int .i64 s1)).below hb); have ca0 := (blk_cell HS1.out.a 0).trans rfl; clear ho hb)
            | ((with_reducible refine gate_builtin (b := .append) (xs := #[.tmp 34, .tmp 38]) rfl ?_); at_builtin; refine Kd.R_append_rows (Kd.int .u8) (w0 := W3.alloc (.cells #[.slice A1 l1.length c1, .int .i64 s1] 71)) (W3.alloc (.cells #[.slice A1 l1.length c1, .int .i64 s1] 71)).heap.size rfl (.tmp 34) (.tmp 38) 22 5 (.int .u8 0) 1 rfl Try.underlying22 info5 rfl (by decide) (by omega) v1 [] y1 _ _ _ (fun _ => True) (fun _ => False) rfl rfl ?aO ?aR (fun _ _ h => h) (fun _ h => h.elim) ?aF ?aB ?aS ?aL ?_; (case aR => exact Kd.C_below HK1.out HS1.out.b); (case aB => exact HB.out); (case aF => exact (fun _ _ => trivial)); (case aO => exact HO.out); (case aS => exact HB.out.size); (case aL => have := HL1.out; simp only [List.length_nil]; omega); intro v2 w2 ho hb hg hat; rw [List.nil_append] at ho; obtain ⟨Bv, Bc, rfl⟩ := Kd.R_slice ho; have HOA := Aside0.mk (Kd.R_elder' (Kd.R_alloc HO3.out _) (Kd.R_base ho) hb); have HOB := Aside0.mk (Kd.R_lower (Kd.R_mono (Kd.R_bound (Kd.R_new' ho (Kd.R_lt (Kd.R_alloc HO3.out _)))) (fun k_ hk => (⟨Nat.lt_of_lt_of_le (blk_lt ((ls.St.of HS3.out (.slice A1 l1.length c1) (.int .i64 s1))).z) hk.2.1, hk.1.2⟩ : w.heap.size + 1 < k_ ∧ _))) ((ls.St.of HS3.out (.slice A1 l1.length c1) (.int .i64 s1))).b.size); have hs2 := (ls.St.of HS3.out (.slice A1 l1.length c1) (.int .i64 s1)).below hb; have HS2 := Aside0.mk hs2; have cd0 := (blk_cell hs2.d 0).trans rfl; have fd0 := blk_frozen hs2.d 0; have cd1 := (blk_cell hs2.d 1).trans rfl; have fd1 := blk_frozen hs2.d 1; have cd2 := (blk_cell hs2.d 2).trans rfl; have fd2 := blk_frozen hs2.d 2; have cd3 := (blk_cell hs2.d 3).trans rfl; have fd3 := blk_frozen hs2.d 3; have cd4 := (blk_cell hs2.d 4).trans rfl; have fd4 := blk_frozen hs2.d 4; have cd5 := (blk_cell hs2.d 5).trans rfl; have fd5 := blk_frozen hs2.d 5; have cd6 := (blk_cell hs2.d 6).trans rfl; have fd6 := blk_frozen hs2.d 6; have cz0 := (blk_cell hs2.z 0).trans rfl; have fz0 := blk_frozen hs2.z 0; have cz1 := (blk_cell hs2.z 1).trans rfl; have fz1 := blk_frozen hs2.z 1; have cz2 := (blk_cell hs2.z 2).trans rfl; have fz2 := blk_frozen hs2.z 2; have cz3 := (blk_cell hs2.z 3).trans rfl; have fz3 := blk_frozen hs2.z 3; have cz4 := (blk_cell hs2.z 4).trans rfl; have fz4 := blk_frozen hs2.z 4; have cz5 := (blk_cell hs2.z 5).trans rfl; have fz5 := blk_frozen hs2.z 5; have cz6 := (blk_cell hs2.z 6).trans rfl; have fz6 := blk_frozen hs2.z 6; have hz2 := blk_lt hs2.z; clear ho hb hg hat hs2))
          rw [rounds_succ]
          go_wp2
          refine bodyPost_ret (results_single rfl (.cell (w.heap.size + 1) 74 _ (0, 0) _ rfl (dl.set7 ((((HS2.out.dl.set 2 _ rfl).set 3 _ rfl).set 6 _ rfl).set 4 _ rfl).z) Try.underlying74 rfl (by kernel_rfl) .nil)) rfl ?_
          have hB : w.heap.size ≤ w.heap.size + 1 := by omega
          refine ⟨_, _, rfl, ?_, ?_, dl.below7 _ _ _ _ _ _ _ ((((HS2.out.dl.set 2 _ rfl).set 3 _ rfl).set 6 _ rfl).set 4 _ rfl).b⟩
          · exact Kd.R_mono (dl.far7 _ _ _ _ _ _ _ (dl.mv hB (fun k_ hk => hk.1) (dl.mv hB (fun k_ hk => hk.1) (dl.mv hB (fun k_ hk => hk.1) (dl.mv hB (fun k_ hk => hk.1) HOA.out)))) (fun k_ hk => by have h_ : w.heap.size + 1 < k_ := hk.1; omega)) (fun k_ hk => hk.2)
          · exact Kd.R_mono (dl.far7 _ _ _ _ _ _ _ (dl.mv hB (fun k_ hk => hk.1) (dl.mv hB (fun k_ hk => hk.1) (dl.mv hB (fun k_ hk => hk.1) (dl.mv hB (fun k_ hk => hk.1) HOB.out)))) (fun k_ hk => by have h_ : w.heap.size + 1 < k_ := hk.1; omega)) (fun k_ hk => hk.2)
set_option maxHeartbeats 3200000 in
set_option maxRecDepth 100000 in
theorem ls.walk_na (A0 : Option Addr) (c0 : Nat) (l0 : List Int) (s0 : Int) (A1 : Option Addr) (c1 : Nat) (l1 : List Int) (s1 fuse keep a1 : Int) (down : Bool) (w : World) (m0 m1 : Nat) (y0 y1 : List Int) (hD0 : ls.D l0.length s0 a1 m0) (hD1 : ls.D l1.length s1 a1 m1) (hE0 : (m0 : Int) < a1 ∧ s0 + (m0 : Int) = (l0.length : Int)) (hE1 : a1 ≤ (m1 : Int)) (hy0 : l0.take (s0 + (m0 : Int)).toNat = y0) (hy1 : l1.take (s1 + (m1 : Int)).toNat = y1)
    (hr0 : Kd.C (Kd.int .u8) w A0 l0.length l0) (hc0 : l0.length ≤ c0) (hr1 : Kd.C (Kd.int .u8) w A1 l1.length l1) (hc1 : l1.length ≤ c1) (hl0 : l0.length < 140737488355328) (hl1 : l1.length < 140737488355328) :
    Calls Try.prog 102 #[.agg #[.slice A0 l0.length c0, .int .i64 s0, .slice A1 l1.length c1, .int .i64 s1, .int .i64 fuse, .int .i64 keep, .bool down], .int .i64 a1] w fun e w' => ∃ v0_ v2_ : Value, e = .returned (.agg #[v0_, .int .i64 (s0 + (m0 : Int)), v2_, .int .i64 (s1 + (m1 : Int)), .int .i64 (-1), .int .i64 keep, .bool true]) ∧ Kd.R (Kd.int .u8) 5 w' w.heap.size (fun k_ => some k_ ≠ (v2_ : Value).ownBlock) v0_ y0 ∧ Kd.R (Kd.int .u8) 5 w' w.heap.size (fun k_ => some k_ ≠ (v0_ : Value).ownBlock) v2_ y1 ∧ Below w.heap.size w w' := by
  obtain ⟨i0, hi0, _, hsz, _⟩ := info_parts info5
  have hcut0 := cut_to (P := Try.prog) 22 5 .i64 Try.underlying22 hi0 A0 l0.length c0 (s0 + (m0 : Int)) (by have := hD0.p; omega) hD0.t hc0
  have hcut1 := cut_to (P := Try.prog) 22 5 .i64 Try.underlying22 hi0 A1 l1.length c1 (s1 + (m1 : Int)) (by have := hD1.p; omega) hD1.t hc1
  have hq0 : y0.length = (s0 + (m0 : Int)).toNat := by have := hD0.p; have := hD0.t; rw [← hy0, List.length_take]; omega
  have hq1 : y1.length = (s1 + (m1 : Int)).toNat := by have := hD1.p; have := hD1.t; rw [← hy1, List.length_take]; omega
  have k0 : Kd.C (Kd.int .u8) w A0 y0.length y0 := by rw [← hy0]; exact Kd.C_take (m := (s0 + (m0 : Int)).toNat) hr0 (by have := hD0.p; have := hD0.t; omega)
  have k1 : Kd.C (Kd.int .u8) w A1 y1.length y1 := by rw [← hy1]; exact Kd.C_take (m := (s1 + (m1 : Int)).toNat) hr1 (by have := hD1.p; have := hD1.t; omega)
  rw [← hq0] at hcut0
  rw [← hq1] at hcut1
  obtain ⟨b0, b1, bb, bs⟩ := dl.two w (.cells #[.slice A0 l0.length c0, .int .i64 s0, .slice A1 l1.length c1, .int .i64 s1, .int .i64 fuse, .int .i64 keep, .bool down] 74) (.cells #[.slice none 0 0, .int .i64 0, .slice none 0 0, .int .i64 0, .int .i64 0, .int .i64 0, .bool false] 74)
  have HS := Aside0.mk (dl.St.mk b0 b1 bb)
  have HD0 := Aside0.mk hD0
  have HD1 := Aside0.mk hD1
  have HE0 := Aside0.mk hE0
  have HE1 := Aside0.mk hE1
  have HK0 := Aside0.mk k0
  have HK1 := Aside0.mk k1
  have HL0 := Aside0.mk (show y0.length < 140737488355328 by have := hD0.p; have := hD0.t; omega)
  have HL1 := Aside0.mk (show y1.length < 140737488355328 by have := hD1.p; have := hD1.t; omega)
  clear hr0 hr1 hc0 hc1 hi0 hsz hD0 hD1 hE0 hE1 k0 k1 hl0 hl1 b0 b1 bb bs hq0 hq1 hy0 hy1
  go_enter Try.func102, Try.ntmps102
  go_wp2
  generalize (w.alloc (.cells #[.slice A0 l0.length c0, .int .i64 s0, .slice A1 l1.length c1, .int .i64 s1, .int .i64 fuse, .int .i64 keep, .bool down] 74)).alloc (.cells #[.slice none 0 0, .int .i64 0, .slice none 0 0, .int .i64 0, .int .i64 0, .int .i64 0, .bool false] 74) = W2 at HS ⊢
  have hd0 := (blk_cell HS.out.d 0).trans rfl; have hd1 := (blk_cell HS.out.d 1).trans rfl
  refine wp_loop_rounds 3 ?_
  rw [rounds_succ]
  go_wp2
  go_loopg [7, 8] (m0 + 1) (fun kq v7 v8 w' => ∃ j : Nat, v7 = .int .i64 (s0 + (j : Int)) ∧ v8 = .int .i64 (a1 - (j : Int)) ∧ j ≤ m0 ∧ Aside0 (m0 < kq + j) ∧ Aside0 (kq ≤ m0 + 1) ∧ w' = W2.alloc (.cells #[.slice A0 l0.length c0, .int .i64 s0] 71))
  case atStart => exact ⟨0, by simp, by simp, Nat.zero_le _, ⟨by omega⟩, ⟨Nat.le_refl _⟩, rfl⟩
  case round =>
    obtain ⟨j, rfl, rfl, hj, HF, HK, hw⟩ := hrel
    subst hw
    rcases Nat.lt_or_ge j m0 with hlt | hge
    · have b1 := HD0.out.b1 hlt
      have b2 := HD0.out.b2 hlt
      have b3 := HD0.out.b3 hlt
      have HLT := Aside0.mk hlt
      clear hlt hj
      go_wp2
      obtain ⟨k2, hk2⟩ : ∃ k2, gk = k2 + 1 := ⟨gk - 1, by have := HF.out; have := HLT.out; omega⟩
      subst hk2
      go_roundg k2
      case measure => have := HK.out; omega
      case rel => exact ⟨j + 1, HD0.out.w1 HLT.out, HD0.out.w2 HLT.out, HLT.out, ⟨by have := HF.out; omega⟩, ⟨by have := HK.out; omega⟩, rfl⟩
    · obtain rfl : m0 = j := by omega
      clear hge hj HF HK
      have b1 : decide (0 < a1 - (m0 : Int)) = true := decide_eq_true (by have := HE0.out; omega)
      have b3 : decide ((m0 : Int) < a1) = true := decide_eq_true (by have := HE0.out; omega)
      have b2 : decide (s0 + (m0 : Int) < (l0.length : Int)) = false := decide_eq_false (by have := HE0.out; omega)
      go_wp2_with (first
        | ((with_reducible refine gate_dst (N := 34) rfl ?_); refine Kd.R_lit (Kd.int .u8) _ 5 ?hg (N := 34) ?hd (xs := ([] : List Int)) (inner := []) (ok := fun _ => True) (okp := fun _ => True) ?hr ?hp (fun _ hk => hk) trivial (Below.refl _ _) (Nat.le_refl _) (by simp) ?_; (case hd => rfl); (case hg => rfl); (case hr => first | (go_simp; done) | (go_simp; rfl)); (case hp => exact (Reps.none _ _)); intro v1 w1 ho hb _ _; have HO := Aside0.mk ho; have HB := Aside0.mk hb; have HS1 := Aside0.mk ((ls.St.of HS.out (.slice A0 l0.length c0) (.int .i64 s0)).below hb); have ca0 := (blk_cell HS1.out.a 0).trans rfl; clear ho hb)
        | ((with_reducible refine gate_builtin (b := .append) (xs := #[.tmp 34, .tmp 38]) rfl ?_); at_builtin; refine Kd.R_append_rows (Kd.int .u8) (w0 := W2.alloc (.cells #[.slice A0 l0.length c0, .int .i64 s0] 71)) (W2.alloc (.cells #[.slice A0 l0.length c0, .int .i64 s0] 71)).heap.size rfl (.tmp 34) (.tmp 38) 22 5 (.int .u8 0) 1 rfl Try.underlying22 info5 rfl (by decide) (by omega) v1 [] y0 _ _ _ (fun _ => True) (fun _ => False) rfl rfl ?aO ?aR (fun _ _ h => h) (fun _ h => h.elim) ?aF ?aB ?aS ?aL ?_; (case aR => exact Kd.C_below HK0.out HS1.out.b); (case aB => exact HB.out); (case aF => exact (fun _ _ => trivial)); (case aO => exact HO.out); (case aS => exact HB.out.size); (case aL => have := HL0.out; simp only [List.length_nil]; omega); intro v2 w2 ho hb hg hat; rw [List.nil_append] at ho; obtain ⟨Av, Ac, rfl⟩ := Kd.R_slice ho; have HO2 := Aside0.mk (Kd.R_lower (Kd.R_mono (Kd.R_bound ho) (fun k_ hk => show w.heap.size + 1 < k_ from Nat.lt_of_lt_of_le (blk_lt ((ls.St.of HS.out (.slice A0 l0.length c0) (.int .i64 s0))).z) hk.2.1)) ((ls.St.of HS.out (.slice A0 l0.length c0) (.int .i64 s0))).b.size); have hs2 := (ls.St.of HS.out (.slice A0 l0.length c0) (.int .i64 s0)).below hb; have HS2 := Aside0.mk hs2; have cd0 := (blk_cell hs2.d 0).trans rfl; have fd0 := blk_frozen hs2.d 0; have cd1 := (blk_cell hs2.d 1).trans rfl; have fd1 := blk_frozen hs2.d 1; have hz2 := blk_lt hs2.d; clear ho hb hg hat hs2))
      rw [rounds_succ]
      have HS3 := Aside0.mk ((HS2.out.dl.set 0 (.slice Av y0.length Ac) rfl).set 1 (.int .i64 (s0 + (m0 : Int))) rfl)
      have HO3 := Aside0.mk (dl.mv (i := 1) (x := .int .i64 (s0 + (m0 : Int))) (show w.heap.size ≤ w.heap.size + 1 by omega) (fun k_ hk => hk) (dl.mv (i := 0) (x := .slice Av y0.length Ac) (show w.heap.size ≤ w.heap.size + 1 by omega) (fun k_ hk => hk) HO2.out))
      clear HS2 HO2 HO HB HS1 ca0 cd0 cd1 fd0 fd1 hz2 b1 b3
      generalize (w2.setCell { block := w.heap.size, off := 0 } (.slice Av y0.length Ac)).setCell { block := w.heap.size, off := 1 } (.int .i64 (s0 + (m0 : Int))) = W3 at HS3 HO3 ⊢
      have hd2 := (blk_cell HS3.out.d 2).trans rfl; have hd3 := (blk_cell HS3.out.d 3).trans rfl
      go_wp2
      go_loopg [7, 8] (m1 + 1) (fun kq v7 v8 w' => ∃ j : Nat, v7 = .int .i64 (s1 + (j : Int)) ∧ v8 = .int .i64 (a1 - (j : Int)) ∧ j ≤ m1 ∧ Aside0 (m1 < kq + j) ∧ Aside0 (kq ≤ m1 + 1) ∧ w' = W3.alloc (.cells #[.slice A1 l1.length c1, .int .i64 s1] 71))
      case atStart => exact ⟨0, by simp, by simp, Nat.zero_le _, ⟨by omega⟩, ⟨Nat.le_refl _⟩, rfl⟩
      case round =>
        obtain ⟨j, rfl, rfl, hj, HF, HK, hw⟩ := hrel
        subst hw
        rcases Nat.lt_or_ge j m1 with hlt | hge
        · have b1 := HD1.out.b1 hlt
          have b2 := HD1.out.b2 hlt
          have b3 := HD1.out.b3 hlt
          have HLT := Aside0.mk hlt
          clear hlt hj
          go_wp2
          obtain ⟨k2, hk2⟩ : ∃ k2, gk = k2 + 1 := ⟨gk - 1, by have := HF.out; have := HLT.out; omega⟩
          subst hk2
          go_roundg k2
          case measure => have := HK.out; omega
          case rel => exact ⟨j + 1, HD1.out.w1 HLT.out, HD1.out.w2 HLT.out, HLT.out, ⟨by have := HF.out; omega⟩, ⟨by have := HK.out; omega⟩, rfl⟩
        · obtain rfl : m1 = j := by omega
          clear hge hj HF HK
          have b1 : decide (0 < a1 - (m1 : Int)) = false := decide_eq_false (by have := HE1.out; omega)
          have b3 : decide ((m1 : Int) < a1) = false := decide_eq_false (by have := HE1.out; omega)
          go_wp2_with (first
            | ((with_reducible refine gate_dst (N := 34) rfl ?_); refine Kd.R_lit (Kd.int .u8) _ 5 ?hg (N := 34) ?hd (xs := ([] : List Int)) (inner := []) (ok := fun _ => True) (okp := fun _ => True) ?hr ?hp (fun _ hk => hk) trivial (Below.refl _ _) (Nat.le_refl _) (by simp) ?_; (case hd => rfl); (case hg => rfl); (case hr => first | (go_simp; done) | (go_simp; rfl)); (case hp => exact (Reps.none _ _)); intro v1 w1 ho hb _ _; have HO := Aside0.mk ho; have HB := Aside0.mk hb; have HS1 := Aside0.mk ((ls.St.of HS3.out (.slice A1 l1.length c1) (.int .i64 s1)).below hb); have ca0 := (blk_cell HS1.out.a 0).trans rfl; clear ho hb)
            | ((with_reducible refine gate_builtin (b := .append) (xs := #[.tmp 34, .tmp 38]) rfl ?_); at_builtin; refine Kd.R_append_rows (Kd.int .u8) (w0 := W3.alloc (.cells #[.slice A1 l1.length c1, .int .i64 s1] 71)) (W3.alloc (.cells #[.slice A1 l1.length c1, .int .i64 s1] 71)).heap.size rfl (.tmp 34) (.tmp 38) 22 5 (.int .u8 0) 1 rfl Try.underlying22 info5 rfl (by decide) (by omega) v1 [] y1 _ _ _ (fun _ => True) (fun _ => False) rfl rfl ?aO ?aR (fun _ _ h => h) (fun _ h => h.elim) ?aF ?aB ?aS ?aL ?_; (case aR => exact Kd.C_below HK1.out HS1.out.b); (case aB => exact HB.out); (case aF => exact (fun _ _ => trivial)); (case aO => exact HO.out); (case aS => exact HB.out.size); (case aL => have := HL1.out; simp only [List.length_nil]; omega); intro v2 w2 ho hb hg hat; rw [List.nil_append] at ho; obtain ⟨Bv, Bc, rfl⟩ := Kd.R_slice ho; have HOA := Aside0.mk (Kd.R_elder' (Kd.R_alloc HO3.out _) (Kd.R_base ho) hb); have HOB := Aside0.mk (Kd.R_lower (Kd.R_mono (Kd.R_bound (Kd.R_new' ho (Kd.R_lt (Kd.R_alloc HO3.out _)))) (fun k_ hk => (⟨Nat.lt_of_lt_of_le (blk_lt ((ls.St.of HS3.out (.slice A1 l1.length c1) (.int .i64 s1))).z) hk.2.1, hk.1.2⟩ : w.heap.size + 1 < k_ ∧ _))) ((ls.St.of HS3.out (.slice A1 l1.length c1) (.int .i64 s1))).b.size); have hs2 := (ls.St.of HS3.out (.slice A1 l1.length c1) (.int .i64 s1)).below hb; have HS2 := Aside0.mk hs2; have cd0 := (blk_cell hs2.d 0).trans rfl; have fd0 := blk_frozen hs2.d 0; have cd1 := (blk_cell hs2.d 1).trans rfl; have fd1 := blk_frozen hs2.d 1; have cd2 := (blk_cell hs2.d 2).trans rfl; have fd2 := blk_frozen hs2.d 2; have cd3 := (blk_cell hs2.d 3).trans rfl; have fd3 := blk_frozen hs2.d 3; have cd4 := (blk_cell hs2.d 4).trans rfl; have fd4 := blk_frozen hs2.d 4; have cd5 := (blk_cell hs2.d 5).trans rfl; have fd5 := blk_frozen hs2.d 5; have cd6 := (blk_cell hs2.d 6).trans rfl; have fd6 := blk_frozen hs2.d 6; have cz0 := (blk_cell hs2.z 0).trans rfl; have fz0 := blk_frozen hs2.z 0; have cz1 := (blk_cell hs2.z 1).trans rfl; have fz1 := blk_frozen hs2.z 1; have cz2 := (blk_cell hs2.z 2).trans rfl; have fz2 := blk_frozen hs2.z 2; have cz3 := (blk_cell hs2.z 3).trans rfl; have fz3 := blk_frozen hs2.z 3; have cz4 := (blk_cell hs2.z 4).trans rfl; have fz4 := blk_frozen hs2.z 4; have cz5 := (blk_cell hs2.z 5).trans rfl; have fz5 := blk_frozen hs2.z 5; have cz6 := (blk_cell hs2.z 6).trans rfl; have fz6 := blk_frozen hs2.z 6; have hz2 := blk_lt hs2.z; clear ho hb hg hat hs2))
          rw [rounds_succ]
          go_wp2
          refine bodyPost_ret (results_single rfl (.cell (w.heap.size + 1) 74 _ (0, 0) _ rfl (dl.set7 ((((HS2.out.dl.set 2 _ rfl).set 3 _ rfl).set 6 _ rfl).set 4 _ rfl).z) Try.underlying74 rfl (by kernel_rfl) .nil)) rfl ?_
          have hB : w.heap.size ≤ w.heap.size + 1 := by omega
          refine ⟨_, _, rfl, ?_, ?_, dl.below7 _ _ _ _ _ _ _ ((((HS2.out.dl.set 2 _ rfl).set 3 _ rfl).set 6 _ rfl).set 4 _ rfl).b⟩
          · exact Kd.R_mono (dl.far7 _ _ _ _ _ _ _ (dl.mv hB (fun k_ hk => hk.1) (dl.mv hB (fun k_ hk => hk.1) (dl.mv hB (fun k_ hk => hk.1) (dl.mv hB (fun k_ hk => hk.1) HOA.out)))) (fun k_ hk => by have h_ : w.heap.size + 1 < k_ := hk.1; omega)) (fun k_ hk => hk.2)
          · exact Kd.R_mono (dl.far7 _ _ _ _ _ _ _ (dl.mv hB (fun k_ hk => hk.1) (dl.mv hB (fun k_ hk => hk.1) (dl.mv hB (fun k_ hk => hk.1) (dl.mv hB (fun k_ hk => hk.1) HOB.out)))) (fun k_ hk => by have h_ : w.heap.size + 1 < k_ := hk.1; omega)) (fun k_ hk => hk.2)
set_option maxHeartbeats 3200000 in
set_option maxRecDepth 100000 in
theorem ls.walk_nn (A0 : Option Addr) (c0 : Nat) (l0 : List Int) (s0 : Int) (A1 : Option Addr) (c1 : Nat) (l1 : List Int) (s1 fuse keep a1 : Int) (down : Bool) (w : World) (m0 m1 : Nat) (y0 y1 : List Int) (hD0 : ls.D l0.length s0 a1 m0) (hD1 : ls.D l1.length s1 a1 m1) (hE0 : (m0 : Int) < a1 ∧ s0 + (m0 : Int) = (l0.length : Int)) (hE1 : (m1 : Int) < a1 ∧ s1 + (m1 : Int) = (l1.length : Int)) (hy0 : l0.take (s0 + (m0 : Int)).toNat = y0) (hy1 : l1.take (s1 + (m1 : Int)).toNat = y1)
    (hr0 : Kd.C (Kd.int .u8) w A0 l0.length l0) (hc0 : l0.length ≤ c0) (hr1 : Kd.C (Kd.int .u8) w A1 l1.length l1) (hc1 : l1.length ≤ c1) (hl0 : l0.length < 140737488355328) (hl1 : l1.length < 140737488355328) :
    Calls Try.prog 102 #[.agg #[.slice A0 l0.length c0, .int .i64 s0, .slice A1 l1.length c1, .int .i64 s1, .int .i64 fuse, .int .i64 keep, .bool down], .int .i64 a1] w fun e w' => ∃ v0_ v2_ : Value, e = .returned (.agg #[v0_, .int .i64 (s0 + (m0 : Int)), v2_, .int .i64 (s1 + (m1 : Int)), .int .i64 (-1), .int .i64 keep, .bool true]) ∧ Kd.R (Kd.int .u8) 5 w' w.heap.size (fun k_ => some k_ ≠ (v2_ : Value).ownBlock) v0_ y0 ∧ Kd.R (Kd.int .u8) 5 w' w.heap.size (fun k_ => some k_ ≠ (v0_ : Value).ownBlock) v2_ y1 ∧ Below w.heap.size w w' := by
  obtain ⟨i0, hi0, _, hsz, _⟩ := info_parts info5
  have hcut0 := cut_to (P := Try.prog) 22 5 .i64 Try.underlying22 hi0 A0 l0.length c0 (s0 + (m0 : Int)) (by have := hD0.p; omega) hD0.t hc0
  have hcut1 := cut_to (P := Try.prog) 22 5 .i64 Try.underlying22 hi0 A1 l1.length c1 (s1 + (m1 : Int)) (by have := hD1.p; omega) hD1.t hc1
  have hq0 : y0.length = (s0 + (m0 : Int)).toNat := by have := hD0.p; have := hD0.t; rw [← hy0, List.length_take]; omega
  have hq1 : y1.length = (s1 + (m1 : Int)).toNat := by have := hD1.p; have := hD1.t; rw [← hy1, List.length_take]; omega
  have k0 : Kd.C (Kd.int .u8) w A0 y0.length y0 := by rw [← hy0]; exact Kd.C_take (m := (s0 + (m0 : Int)).toNat) hr0 (by have := hD0.p; have := hD0.t; omega)
  have k1 : Kd.C (Kd.int .u8) w A1 y1.length y1 := by rw [← hy1]; exact Kd.C_take (m := (s1 + (m1 : Int)).toNat) hr1 (by have := hD1.p; have := hD1.t; omega)
  rw [← hq0] at hcut0
  rw [← hq1] at hcut1
  obtain ⟨b0, b1, bb, bs⟩ := dl.two w (.cells #[.slice A0 l0.length c0, .int .i64 s0, .slice A1 l1.length c1, .int .i64 s1, .int .i64 fuse, .int .i64 keep, .bool down] 74) (.cells #[.slice none 0 0, .int .i64 0, .slice none 0 0, .int .i64 0, .int .i64 0, .int .i64 0, .bool false] 74)
  have HS := Aside0.mk (dl.St.mk b0 b1 bb)
  have HD0 := Aside0.mk hD0
  have HD1 := Aside0.mk hD1
  have HE0 := Aside0.mk hE0
  have HE1 := Aside0.mk hE1
  have HK0 := Aside0.mk k0
  have HK1 := Aside0.mk k1
  have HL0 := Aside0.mk (show y0.length < 140737488355328 by have := hD0.p; have := hD0.t; omega)
  have HL1 := Aside0.mk (show y1.length < 140737488355328 by have := hD1.p; have := hD1.t; omega)
  clear hr0 hr1 hc0 hc1 hi0 hsz hD0 hD1 hE0 hE1 k0 k1 hl0 hl1 b0 b1 bb bs hq0 hq1 hy0 hy1
  go_enter Try.func102, Try.ntmps102
  go_wp2
  generalize (w.alloc (.cells #[.slice A0 l0.length c0, .int .i64 s0, .slice A1 l1.length c1, .int .i64 s1, .int .i64 fuse, .int .i64 keep, .bool down] 74)).alloc (.cells #[.slice none 0 0, .int .i64 0, .slice none 0 0, .int .i64 0, .int .i64 0, .int .i64 0, .bool false] 74) = W2 at HS ⊢
  have hd0 := (blk_cell HS.out.d 0).trans rfl; have hd1 := (blk_cell HS.out.d 1).trans rfl
  refine wp_loop_rounds 3 ?_
  rw [rounds_succ]
  go_wp2
  go_loopg [7, 8] (m0 + 1) (fun kq v7 v8 w' => ∃ j : Nat, v7 = .int .i64 (s0 + (j : Int)) ∧ v8 = .int .i64 (a1 - (j : Int)) ∧ j ≤ m0 ∧ Aside0 (m0 < kq + j) ∧ Aside0 (kq ≤ m0 + 1) ∧ w' = W2.alloc (.cells #[.slice A0 l0.length c0, .int .i64 s0] 71))
  case atStart => exact ⟨0, by simp, by simp, Nat.zero_le _, ⟨by omega⟩, ⟨Nat.le_refl _⟩, rfl⟩
  case round =>
    obtain ⟨j, rfl, rfl, hj, HF, HK, hw⟩ := hrel
    subst hw
    rcases Nat.lt_or_ge j m0 with hlt | hge
    · have b1 := HD0.out.b1 hlt
      have b2 := HD0.out.b2 hlt
      have b3 := HD0.out.b3 hlt
      have HLT := Aside0.mk hlt
      clear hlt hj
      go_wp2
      obtain ⟨k2, hk2⟩ : ∃ k2, gk = k2 + 1 := ⟨gk - 1, by have := HF.out; have := HLT.out; omega⟩
      subst hk2
      go_roundg k2
      case measure => have := HK.out; omega
      case rel => exact ⟨j + 1, HD0.out.w1 HLT.out, HD0.out.w2 HLT.out, HLT.out, ⟨by have := HF.out; omega⟩, ⟨by have := HK.out; omega⟩, rfl⟩
    · obtain rfl : m0 = j := by omega
      clear hge hj HF HK
      have b1 : decide (0 < a1 - (m0 : Int)) = true := decide_eq_true (by have := HE0.out; omega)
      have b3 : decide ((m0 : Int) < a1) = true := decide_eq_true (by have := HE0.out; omega)
      have b2 : decide (s0 + (m0 : Int) < (l0.length : Int)) = false := decide_eq_false (by have := HE0.out; omega)
      go_wp2_with (first
        | ((with_reducible refine gate_dst (N := 34) rfl ?_); refine Kd.R_lit (Kd.int .u8) _ 5 ?hg (N := 34) ?hd (xs := ([] : List Int)) (inner := []) (ok := fun _ => True) (okp := fun _ => True) ?hr ?hp (fun _ hk => hk) trivial (Below.refl _ _) (Nat.le_refl _) (by simp) ?_; (case hd => rfl); (case hg => rfl); (case hr => first | (go_simp; done) | (go_simp; rfl)); (case hp => exact (Reps.none _ _)); intro v1 w1 ho hb _ _; have HO := Aside0.mk ho; have HB := Aside0.mk hb; have HS1 := Aside0.mk ((ls.St.of HS.out (.slice A0 l0.length c0) (.int .i64 s0)).below hb); have ca0 := (blk_cell HS1.out.a 0).trans rfl; clear ho hb)
        | ((with_reducible refine gate_builtin (b := .append) (xs := #[.tmp 34, .tmp 38]) rfl ?_); at_builtin; refine Kd.R_append_rows (Kd.int .u8) (w0 := W2.alloc (.cells #[.slice A0 l0.length c0, .int .i64 s0] 71)) (W2.alloc (.cells #[.slice A0 l0.length c0, .int .i64 s0] 71)).heap.size rfl (.tmp 34) (.tmp 38) 22 5 (.int .u8 0) 1 rfl Try.underlying22 info5 rfl (by decide) (by omega) v1 [] y0 _ _ _ (fun _ => True) (fun _ => False) rfl rfl ?aO ?aR (fun _ _ h => h) (fun _ h => h.elim) ?aF ?aB ?aS ?aL ?_; (case aR => exact Kd.C_below HK0.out HS1.out.b); (case aB => exact HB.out); (case aF => exact (fun _ _ => trivial)); (case aO => exact HO.out); (case aS => exact HB.out.size); (case aL => have := HL0.out; simp only [List.length_nil]; omega); intro v2 w2 ho hb hg hat; rw [List.nil_append] at ho; obtain ⟨Av, Ac, rfl⟩ := Kd.R_slice ho; have HO2 := Aside0.mk (Kd.R_lower (Kd.R_mono (Kd.R_bound ho) (fun k_ hk => show w.heap.size + 1 < k_ from Nat.lt_of_lt_of_le (blk_lt ((ls.St.of HS.out (.slice A0 l0.length c0) (.int .i64 s0))).z) hk.2.1)) ((ls.St.of HS.out (.slice A0 l0.length c0) (.int .i64 s0))).b.size); have hs2 := (ls.St.of HS.out (.slice A0 l0.length c0) (.int .i64 s0)).below hb; have HS2 := Aside0.mk hs2; have cd0 := (blk_cell hs2.d 0).trans rfl; have fd0 := blk_frozen hs2.d 0; have cd1 := (blk_cell hs2.d 1).trans rfl; have fd1 := blk_frozen hs2.d 1; have hz2 := blk_lt hs2.d; clear ho hb hg hat hs2))
      rw [rounds_succ]
      have HS3 := Aside0.mk ((HS2.out.dl.set 0 (.slice Av y0.length Ac) rfl).set 1 (.int .i64 (s0 + (m0 : Int))) rfl)
      have HO3 := Aside0.mk (dl.mv (i := 1) (x := .int .i64 (s0 + (m0 : Int))) (show w.heap.size ≤ w.heap.size + 1 by omega) (fun k_ hk => hk) (dl.mv (i := 0) (x := .slice Av y0.length Ac) (show w.heap.size ≤ w.heap.size + 1 by omega) (fun k_ hk => hk) HO2.out))
      clear HS2 HO2 HO HB HS1 ca0 cd0 cd1 fd0 fd1 hz2 b1 b3
      generalize (w2.setCell { block := w.heap.size, off := 0 } (.slice Av y0.length Ac)).setCell { block := w.heap.size, off := 1 } (.int .i64 (s0 + (m0 : Int))) = W3 at HS3 HO3 ⊢
      have hd2 := (blk_cell HS3.out.d 2).trans rfl; have hd3 := (blk_cell HS3.out.d 3).trans rfl
      go_wp2
      go_loopg [7, 8] (m1 + 1) (fun kq v7 v8 w' => ∃ j : Nat, v7 = .int .i64 (s1 + (j : Int)) ∧ v8 = .int .i64 (a1 - (j : Int)) ∧ j ≤ m1 ∧ Aside0 (m1 < kq + j) ∧ Aside0 (kq ≤ m1 + 1) ∧ w' = W3.alloc (.cells #[.slice A1 l1.length c1, .int .i64 s1] 71))
      case atStart => exact ⟨0, by simp, by simp, Nat.zero_le _, ⟨by omega⟩, ⟨Nat.le_refl _⟩, rfl⟩
      case round =>
        obtain ⟨j, rfl, rfl, hj, HF, HK, hw⟩ := hrel
        subst hw
        rcases Nat.lt_or_ge j m1 with hlt | hge
        · have b1 := HD1.out.b1 hlt
          have b2 := HD1.out.b2 hlt
          have b3 := HD1.out.b3 hlt
          have HLT := Aside0.mk hlt
          clear hlt hj
          go_wp2
          obtain ⟨k2, hk2⟩ : ∃ k2, gk = k2 + 1 := ⟨gk - 1, by have := HF.out; have := HLT.out; omega⟩
          subst hk2
          go_roundg k2
          case measure => have := HK.out; omega
          case rel => exact ⟨j + 1, HD1.out.w1 HLT.out, HD1.out.w2 HLT.out, HLT.out, ⟨by have := HF.out; omega⟩, ⟨by have := HK.out; omega⟩, rfl⟩
        · obtain rfl : m1 = j := by omega
          clear hge hj HF HK
          have b1 : decide (0 < a1 - (m1 : Int)) = true := decide_eq_true (by have := HE1.out; omega)
          have b3 : decide ((m1 : Int) < a1) = true := decide_eq_true (by have := HE1.out; omega)
          have b2 : decide (s1 + (m1 : Int) < (l1.length : Int)) = false := decide_eq_false (by have := HE1.out; omega)
          go_wp2_with (first
            | ((with_reducible refine gate_dst (N := 34) rfl ?_); refine Kd.R_lit (Kd.int .u8) _ 5 ?hg (N := 34) ?hd (xs := ([] : List Int)) (inner := []) (ok := fun _ => True) (okp := fun _ => True) ?hr ?hp (fun _ hk => hk) trivial (Below.refl _ _) (Nat.le_refl _) (by simp) ?_; (case hd => rfl); (case hg => rfl); (case hr => first | (go_simp; done) | (go_simp; rfl)); (case hp => exact (Reps.none _ _)); intro v1 w1 ho hb _ _; have HO := Aside0.mk ho; have HB := Aside0.mk hb; have HS1 := Aside0.mk ((ls.St.of HS3.out (.slice A1 l1.length c1) (.int .i64 s1)).below hb); have ca0 := (blk_cell HS1.out.a 0).trans rfl; clear ho hb)
            | ((with_reducible refine gate_builtin (b := .append) (xs := #[.tmp 34, .tmp 38]) rfl ?_); at_builtin; refine Kd.R_append_rows (Kd.int .u8) (w0 := W3.alloc (.cells #[.slice A1 l1.length c1, .int .i64 s1] 71)) (W3.alloc (.cells #[.slice A1 l1.length c1, .int .i64 s1] 71)).heap.size rfl (.tmp 34) (.tmp 38) 22 5 (.int .u8 0) 1 rfl Try.underlying22 info5 rfl (by decide) (by omega) v1 [] y1 _ _ _ (fun _ => True) (fun _ => False) rfl rfl ?aO ?aR (fun _ _ h => h) (fun _ h => h.elim) ?aF ?aB ?aS ?aL ?_; (case aR => exact Kd.C_below HK1.out HS1.out.b); (case aB => exact HB.out); (case aF => exact (fun _ _ => trivial)); (case aO => exact HO.out); (case aS => exact HB.out.size); (case aL => have := HL1.out; simp only [List.length_nil]; omega); intro v2 w2 ho hb hg hat; rw [List.nil_append] at ho; obtain ⟨Bv, Bc, rfl⟩ := Kd.R_slice ho; have HOA := Aside0.mk (Kd.R_elder' (Kd.R_alloc HO3.out _) (Kd.R_base ho) hb); have HOB := Aside0.mk (Kd.R_lower (Kd.R_mono (Kd.R_bound (Kd.R_new' ho (Kd.R_lt (Kd.R_alloc HO3.out _)))) (fun k_ hk => (⟨Nat.lt_of_lt_of_le (blk_lt ((ls.St.of HS3.out (.slice A1 l1.length c1) (.int .i64 s1))).z) hk.2.1, hk.1.2⟩ : w.heap.size + 1 < k_ ∧ _))) ((ls.St.of HS3.out (.slice A1 l1.length c1) (.int .i64 s1))).b.size); have hs2 := (ls.St.of HS3.out (.slice A1 l1.length c1) (.int .i64 s1)).below hb; have HS2 := Aside0.mk hs2; have cd0 := (blk_cell hs2.d 0).trans rfl; have fd0 := blk_frozen hs2.d 0; have cd1 := (blk_cell hs2.d 1).trans rfl; have fd1 := blk_frozen hs2.d 1; have cd2 := (blk_cell hs2.d 2).trans rfl; have fd2 := blk_frozen hs2.d 2; have cd3 := (blk_cell hs2.d 3).trans rfl; have fd3 := blk_frozen hs2.d 3; have cd4 := (blk_cell hs2.d 4).trans rfl; have fd4 := blk_frozen hs2.d 4; have cd5 := (blk_cell hs2.d 5).trans rfl; have fd5 := blk_frozen hs2.d 5; have cd6 := (blk_cell hs2.d 6).trans rfl; have fd6 := blk_frozen hs2.d 6; have cz0 := (blk_cell hs2.z 0).trans rfl; have fz0 := blk_frozen hs2.z 0; have cz1 := (blk_cell hs2.z 1).trans rfl; have fz1 := blk_frozen hs2.z 1; have cz2 := (blk_cell hs2.z 2).trans rfl; have fz2 := blk_frozen hs2.z 2; have cz3 := (blk_cell hs2.z 3).trans rfl; have fz3 := blk_frozen hs2.z 3; have cz4 := (blk_cell hs2.z 4).trans rfl; have fz4 := blk_frozen hs2.z 4; have cz5 := (blk_cell hs2.z 5).trans rfl; have fz5 := blk_frozen hs2.z 5; have cz6 := (blk_cell hs2.z 6).trans rfl; have fz6 := blk_frozen hs2.z 6; have hz2 := blk_lt hs2.z; clear ho hb hg hat hs2))
          rw [rounds_succ]
          go_wp2
          refine bodyPost_ret (results_single rfl (.cell (w.heap.size + 1) 74 _ (0, 0) _ rfl (dl.set7 ((((HS2.out.dl.set 2 _ rfl).set 3 _ rfl).set 6 _ rfl).set 4 _ rfl).z) Try.underlying74 rfl (by kernel_rfl) .nil)) rfl ?_
          have hB : w.heap.size ≤ w.heap.size + 1 := by omega
          refine ⟨_, _, rfl, ?_, ?_, dl.below7 _ _ _ _ _ _ _ ((((HS2.out.dl.set 2 _ rfl).set 3 _ rfl).set 6 _ rfl).set 4 _ rfl).b⟩
          · exact Kd.R_mono (dl.far7 _ _ _ _ _ _ _ (dl.mv hB (fun k_ hk => hk.1) (dl.mv hB (fun k_ hk => hk.1) (dl.mv hB (fun k_ hk => hk.1) (dl.mv hB (fun k_ hk => hk.1) HOA.out)))) (fun k_ hk => by have h_ : w.heap.size + 1 < k_ := hk.1; omega)) (fun k_ hk => hk.2)
          · exact Kd.R_mono (dl.far7 _ _ _ _ _ _ _ (dl.mv hB (fun k_ hk => hk.1) (dl.mv hB (fun k_ hk => hk.1) (dl.mv hB (fun k_ hk => hk.1) (dl.mv hB (fun k_ hk => hk.1) HOB.out)))) (fun k_ hk => by have h_ : w.heap.size + 1 < k_ := hk.1; omega)) (fun k_ hk => hk.2)
def wristbandref17_Lose.f (l0_0 : List Int) (a0_1 : Int) (l0_2 : List Int) (a0_3 : Int) (a0_4 : Int) (a0_5 : Int) (a0_6 : Bool) (a1 : Int) : Option (List Int × Int × List Int × Int × Int × Int × Bool) :=
  if (0 ≤ a0_1 ∧ a0_1 ≤ (l0_0.length : Int) ∧ l0_0.length < 140737488355328) ∧ (0 ≤ a0_3 ∧ a0_3 ≤ (l0_2.length : Int) ∧ l0_2.length < 140737488355328) ∧ a1 < 9223372036854775808 then
    some (l0_0.take (a0_1 + (ls.d l0_0.length a0_1 a1 : Int)).toNat, a0_1 + (ls.d l0_0.length a0_1 a1 : Int), l0_2.take (a0_3 + (ls.d l0_2.length a0_3 a1 : Int)).toNat, a0_3 + (ls.d l0_2.length a0_3 a1 : Int), -1, a0_5, true)
  else none
theorem wristbandref17_Lose.calls (A0_0 : Option Addr) (c0_0 : Nat) (l0_0 : List Int) (a0_1 : Int) (A0_2 : Option Addr) (c0_2 : Nat) (l0_2 : List Int) (a0_3 : Int) (a0_4 : Int) (a0_5 : Int) (a0_6 : Bool) (a1 : Int) (r1 : List Int) (r2 : Int) (r3 : List Int) (r4 : Int) (r5 : Int) (r6 : Int) (r7 : Bool) (w : World) (hr0_0 : Kd.C (Kd.int .u8) w A0_0 l0_0.length l0_0) (hc0_0 : l0_0.length ≤ c0_0) (hr0_2 : Kd.C (Kd.int .u8) w A0_2 l0_2.length l0_2) (hc0_2 : l0_2.length ≤ c0_2) (h : wristbandref17_Lose.f l0_0 a0_1 l0_2 a0_3 a0_4 a0_5 a0_6 a1 = some (r1, r2, r3, r4, r5, r6, r7)) :
    Calls Try.prog 102 #[.agg #[.slice A0_0 l0_0.length c0_0, .int .i64 a0_1, .slice A0_2 l0_2.length c0_2, .int .i64 a0_3, .int .i64 a0_4, .int .i64 a0_5, .bool a0_6], .int .i64 a1] w fun e w' => ∃ v0_ v2_ : Value, e = .returned (.agg #[v0_, .int .i64 r2, v2_, .int .i64 r4, .int .i64 r5, .int .i64 r6, .bool r7]) ∧ Kd.R (Kd.int .u8) 5 w' w.heap.size (fun k_ => some k_ ≠ (v2_ : Value).ownBlock) v0_ r1 ∧ Kd.R (Kd.int .u8) 5 w' w.heap.size (fun k_ => some k_ ≠ (v0_ : Value).ownBlock) v2_ r3 ∧ Below w.heap.size w w' := by
  unfold wristbandref17_Lose.f at h
  by_cases hc : (0 ≤ a0_1 ∧ a0_1 ≤ (l0_0.length : Int) ∧ l0_0.length < 140737488355328) ∧ (0 ≤ a0_3 ∧ a0_3 ≤ (l0_2.length : Int) ∧ l0_2.length < 140737488355328) ∧ a1 < 9223372036854775808
  case neg => rw [if_neg hc] at h; cases h
  rw [if_pos hc] at h
  obtain ⟨⟨p0, p1, p2⟩, ⟨q0, q1, q2⟩, ha⟩ := hc
  simp only [Option.some.injEq, Prod.mk.injEq] at h
  obtain ⟨h1, rfl, h3, rfl, rfl, rfl, rfl⟩ := h
  obtain ⟨hD0, hE0⟩ := ls.D.of p0 p1 (by omega) ha
  obtain ⟨hD1, hE1⟩ := ls.D.of q0 q1 (by omega) ha
  generalize ls.d l0_0.length a0_1 a1 = m0 at hD0 hE0 h1 ⊢
  generalize ls.d l0_2.length a0_3 a1 = m1 at hD1 hE1 h3 ⊢
  rcases hE0 with hE0 | hE0 <;> rcases hE1 with hE1 | hE1
  · exact ls.walk_aa A0_0 c0_0 l0_0 a0_1 A0_2 c0_2 l0_2 a0_3 a0_4 a0_5 a1 a0_6 w m0 m1 r1 r3 hD0 hD1 hE0 hE1 h1 h3 hr0_0 hc0_0 hr0_2 hc0_2 p2 q2
  · exact ls.walk_an A0_0 c0_0 l0_0 a0_1 A0_2 c0_2 l0_2 a0_3 a0_4 a0_5 a1 a0_6 w m0 m1 r1 r3 hD0 hD1 hE0 hE1 h1 h3 hr0_0 hc0_0 hr0_2 hc0_2 p2 q2
  · exact ls.walk_na A0_0 c0_0 l0_0 a0_1 A0_2 c0_2 l0_2 a0_3 a0_4 a0_5 a1 a0_6 w m0 m1 r1 r3 hD0 hD1 hE0 hE1 h1 h3 hr0_0 hc0_0 hr0_2 hc0_2 p2 q2
  · exact ls.walk_nn A0_0 c0_0 l0_0 a0_1 A0_2 c0_2 l0_2 a0_3 a0_4 a0_5 a1 a0_6 w m0 m1 r1 r3 hD0 hD1 hE0 hE1 h1 h3 hr0_0 hc0_0 hr0_2 hc0_2 p2 q2

/-! ### wristbandref17_begin: function 101 -/
theorem dl.St.drew {w W : World} {x0 x1 x2 x3 x4 x5 x6 : Value} (h : dl.St w W x0 x1 x2 x3 x4 x5 x6) : dl.St w W.drew x0 x1 x2 x3 x4 x5 x6 := ⟨blk_drew h.d, blk_drew h.z, below_drew1 h.b⟩
theorem rr_f (l0 : List Int) (s0 : Int) (l1 : List Int) (s1 fuse keep : Int) (down : Bool) : wristbandref17_Right.f 3 l0 s0 l1 s1 fuse keep down = some (dk.right l0.length s0 l1.length s1 fuse keep) := by
  unfold wristbandref17_Right.f dk.right
  rw [wristbandref17_Right.l0, if_pos (by omega), if_pos rfl]
  by_cases h0 : s0 < 0
  · rw [if_pos h0, dk.okf (.inl h0)]; rfl
  by_cases h1 : (l0.length : Int) < s0
  · rw [if_neg h0, if_pos h1, dk.okf (.inr (.inl h1))]; rfl
  by_cases h2 : (1048576 : Int) < (l0.length : Int)
  · rw [if_neg h0, if_neg h1, if_pos h2, dk.okf (.inr (.inr h2))]; rfl
  rw [if_neg h0, if_neg h1, if_neg h2, dk.okt h0 h1 h2, show wrap64 (0 + 1) = 1 by unfold wrap64; rfl, wristbandref17_Right.l0, if_pos (by omega), if_neg (by omega), if_pos rfl]
  by_cases g0 : s1 < 0
  · rw [if_pos g0, dk.okf (.inl g0)]; rfl
  by_cases g1 : (l1.length : Int) < s1
  · rw [if_neg g0, if_pos g1, dk.okf (.inr (.inl g1))]; rfl
  by_cases g2 : (1048576 : Int) < (l1.length : Int)
  · rw [if_neg g0, if_neg g1, if_pos g2, dk.okf (.inr (.inr g2))]; rfl
  rw [if_neg g0, if_neg g1, if_neg g2, dk.okt g0 g1 g2, show wrap64 (1 + 1) = 2 by unfold wrap64; rfl, wristbandref17_Right.l0, if_neg (by omega)]
  by_cases hf : fuse ≥ -1
  · rw [if_pos hf, decide_eq_true (show -1 ≤ fuse from hf)]; rfl
  · rw [if_neg hf, decide_eq_false (show ¬ -1 ≤ fuse from hf)]; rfl
/-- How a step begins: the fuse, whether the power goes, an error. -/
def bg.f (ok down : Bool) (fuse : Int) : Int × Bool × Int :=
  if ok = true then if down = true then (fuse, false, 14) else if fuse = 0 then (fuse, true, 0) else ((if 0 < fuse then wrap64 (fuse - 1) else fuse), false, 0) else (fuse, false, 1)
set_option maxHeartbeats 3200000 in
set_option maxRecDepth 100000 in
theorem bg.walk {A0 : Option Addr} {c0 : Nat} {l0 : List Int} {s0 : Int} {A1 : Option Addr} {c1 : Nat} {l1 : List Int} {s1 fuse keep k : Int} {down : Bool} {w : World} (ok : Bool) (hok : (dk.right l0.length s0 l1.length s1 fuse keep && (decide (0 ≤ k) && decide (k < 2))) = ok) (hr0 : Kd.C (Kd.int .u8) w A0 l0.length l0) (hc0 : l0.length ≤ c0) (hr1 : Kd.C (Kd.int .u8) w A1 l1.length l1) (hc1 : l1.length ≤ c1) :
    Calls Try.prog 101 #[.agg #[.slice A0 l0.length c0, .int .i64 s0, .slice A1 l1.length c1, .int .i64 s1, .int .i64 fuse, .int .i64 keep, .bool down], .int .i64 k] w fun e w' => e = .returned (.tuple #[.agg #[.slice A0 l0.length c0, .int .i64 s0, .slice A1 l1.length c1, .int .i64 s1, .int .i64 (bg.f ok down fuse).1, .int .i64 keep, .bool down], .bool (bg.f ok down fuse).2.1, .int .i64 (bg.f ok down fuse).2.2]) ∧ Below w.heap.size w w' := by
  obtain ⟨b0, b1, bb, bs⟩ := dl.two w (.cells #[.slice A0 l0.length c0, .int .i64 s0, .slice A1 l1.length c1, .int .i64 s1, .int .i64 fuse, .int .i64 keep, .bool down] 74) (.cells #[.slice none 0 0, .int .i64 0, .slice none 0 0, .int .i64 0, .int .i64 0, .int .i64 0, .bool false] 74)
  have HS := Aside0.mk (dl.St.mk b0 b1 bb)
  have HR0 := Aside0.mk hr0
  have HC0 := Aside0.mk hc0
  have HR1 := Aside0.mk hr1
  have HC1 := Aside0.mk hc1
  clear hr0 hc0 hr1 hc1 b0 b1 bb bs
  go_enter Try.func101, Try.ntmps101
  go_upto_region 1 with fail
  generalize (w.alloc (.cells #[.slice A0 l0.length c0, .int .i64 s0, .slice A1 l1.length c1, .int .i64 s1, .int .i64 fuse, .int .i64 keep, .bool down] 74)).alloc (.cells #[.slice none 0 0, .int .i64 0, .slice none 0 0, .int .i64 0, .int .i64 0, .int .i64 0, .bool false] 74) = W2 at HS ⊢
  have q0 := (blk_cell HS.out.d 0).trans rfl; have fq0 := blk_frozen HS.out.d 0; have q1 := (blk_cell HS.out.d 1).trans rfl; have fq1 := blk_frozen HS.out.d 1; have q2 := (blk_cell HS.out.d 2).trans rfl; have fq2 := blk_frozen HS.out.d 2; have q3 := (blk_cell HS.out.d 3).trans rfl; have fq3 := blk_frozen HS.out.d 3; have q4 := (blk_cell HS.out.d 4).trans rfl; have fq4 := blk_frozen HS.out.d 4; have q5 := (blk_cell HS.out.d 5).trans rfl; have fq5 := blk_frozen HS.out.d 5; have q6 := (blk_cell HS.out.d 6).trans rfl; have fq6 := blk_frozen HS.out.d 6
  go_cut [17] (fun v17 wx => v17 = .bool (!ok) ∧ Aside0 (dl.St w wx (.slice A0 l0.length c0) (.int .i64 s0) (.slice A1 l1.length c1) (.int .i64 s1) (.int .i64 fuse) (.int .i64 keep) (.bool down)))
  case first =>
    cases hR : dk.right l0.length s0 l1.length s1 fuse keep with
    | false =>
      rw [hR, Bool.false_and] at hok
      subst hok
      have HF := Aside0.mk ((rr_f l0 s0 l1 s1 fuse keep down).trans (congrArg some hR))
      clear hR
      go_wp2_with (go_at_call 68; refine Calls.mono (wristbandref17_Right.calls 3 A0 c0 l0 s0 A1 c1 l1 s1 fuse keep down _ _ (Kd.C_below HR0.out HS.out.b) HC0.out (Kd.C_below HR1.out HS.out.b) HC1.out HF.out) ?_; rintro e w3 ⟨rfl, hb⟩; have HT := Aside0.mk (HS.out.below hb); clear hb)
      go_meet; exact ⟨rfl, HT⟩
    | true =>
      rw [hR, Bool.true_and] at hok
      have HF := Aside0.mk ((rr_f l0 s0 l1 s1 fuse keep down).trans (congrArg some hR))
      clear hR
      rcases (show k = 0 ∨ k = 1 ∨ (k ≠ 0 ∧ k ≠ 1) by omega) with rfl | rfl | ⟨h0, h1⟩
      · subst hok
        go_wp2_with (go_at_call 68; refine Calls.mono (wristbandref17_Right.calls 3 A0 c0 l0 s0 A1 c1 l1 s1 fuse keep down _ _ (Kd.C_below HR0.out HS.out.b) HC0.out (Kd.C_below HR1.out HS.out.b) HC1.out HF.out) ?_; rintro e w3 ⟨rfl, hb⟩; have HT := Aside0.mk (HS.out.below hb); clear hb)
        go_meet; exact ⟨rfl, HT⟩
      · subst hok
        go_wp2_with (go_at_call 68; refine Calls.mono (wristbandref17_Right.calls 3 A0 c0 l0 s0 A1 c1 l1 s1 fuse keep down _ _ (Kd.C_below HR0.out HS.out.b) HC0.out (Kd.C_below HR1.out HS.out.b) HC1.out HF.out) ?_; rintro e w3 ⟨rfl, hb⟩; have HT := Aside0.mk (HS.out.below hb); clear hb)
        go_meet; exact ⟨rfl, HT⟩
      · have b0 : (k != 0) = true := bne_iff_ne.mpr h0
        have b1 : (k != 1) = true := bne_iff_ne.mpr h1
        have hk : (decide (0 ≤ k) && decide (k < 2)) = false := by
          by_cases e : 0 ≤ k
          · rw [decide_eq_false (show ¬ k < 2 by omega), Bool.and_false]
          · rw [decide_eq_false e, Bool.false_and]
        rw [hk] at hok
        subst hok
        clear h0 h1 hk
        go_wp2_with (go_at_call 68; refine Calls.mono (wristbandref17_Right.calls 3 A0 c0 l0 s0 A1 c1 l1 s1 fuse keep down _ _ (Kd.C_below HR0.out HS.out.b) HC0.out (Kd.C_below HR1.out HS.out.b) HC1.out HF.out) ?_; rintro e w3 ⟨rfl, hb⟩; have HT := Aside0.mk (HS.out.below hb); clear hb)
        go_meet; exact ⟨rfl, HT⟩
  case rest =>
    obtain ⟨rfl, HS⟩ := hcut
    have hz2 := blk_lt HS.out.z
    have p0 := (blk_cell HS.out.d 0).trans rfl; have fp0 := blk_frozen HS.out.d 0; have p1 := (blk_cell HS.out.d 1).trans rfl; have fp1 := blk_frozen HS.out.d 1; have p2 := (blk_cell HS.out.d 2).trans rfl; have fp2 := blk_frozen HS.out.d 2; have p3 := (blk_cell HS.out.d 3).trans rfl; have fp3 := blk_frozen HS.out.d 3; have p4 := (blk_cell HS.out.d 4).trans rfl; have fp4 := blk_frozen HS.out.d 4; have p5 := (blk_cell HS.out.d 5).trans rfl; have fp5 := blk_frozen HS.out.d 5; have p6 := (blk_cell HS.out.d 6).trans rfl; have fp6 := blk_frozen HS.out.d 6; have y0 := (blk_cell HS.out.z 0).trans rfl; have fy0 := blk_frozen HS.out.z 0; have y1 := (blk_cell HS.out.z 1).trans rfl; have fy1 := blk_frozen HS.out.z 1; have y2 := (blk_cell HS.out.z 2).trans rfl; have fy2 := blk_frozen HS.out.z 2; have y3 := (blk_cell HS.out.z 3).trans rfl; have fy3 := blk_frozen HS.out.z 3; have y4 := (blk_cell HS.out.z 4).trans rfl; have fy4 := blk_frozen HS.out.z 4; have y5 := (blk_cell HS.out.z 5).trans rfl; have fy5 := blk_frozen HS.out.z 5; have y6 := (blk_cell HS.out.z 6).trans rfl; have fy6 := blk_frozen HS.out.z 6
    clear hok
    cases ok with
    | false =>
      go_wp2
      refine bodyPost_ret (results_ctt rfl _ _ (w.heap.size + 1) 74 _ (0, 0) _ rfl (sp.set7 HS.out.z) Try.underlying74 rfl (by kernel_rfl)) rfl ?_
      exact ⟨rfl, dl.below7 _ _ _ _ _ _ _ HS.out.b⟩
    | true =>
      cases down with
      | true =>
        go_wp2
        refine bodyPost_ret (results_ctt rfl _ _ (w.heap.size + 1) 74 _ (0, 0) _ rfl (sp.set7 HS.out.z) Try.underlying74 rfl (by kernel_rfl)) rfl ?_
        exact ⟨rfl, dl.below7 _ _ _ _ _ _ _ HS.out.b⟩
      | false =>
        rcases (show fuse = 0 ∨ 0 < fuse ∨ (fuse ≠ 0 ∧ ¬ 0 < fuse) by omega) with rfl | hf | ⟨hf, hg⟩
        · go_wp2
          refine bodyPost_ret (results_ctt rfl _ _ (w.heap.size + 1) 74 _ (0, 0) _ rfl (sp.set7 HS.out.z) Try.underlying74 rfl (by kernel_rfl)) rfl ?_
          exact ⟨rfl, dl.below7 _ _ _ _ _ _ _ HS.out.b⟩
        · have e0 : (fuse == 0) = false := beq_eq_false_iff_ne.mpr (by omega)
          have e1 : decide (0 < fuse) = true := decide_eq_true hf
          have e2 : fuse ≠ 0 := by omega
          have HQ := Aside0.mk (show (if fuse = 0 then (fuse, true, (0 : Int)) else ((if 0 < fuse then wrap64 (fuse - 1) else fuse), false, (0 : Int))) = (wrap64 (fuse - 1), false, 0) by rw [if_neg e2, if_pos hf])
          clear hf e2
          go_wp2
          refine bodyPost_ret (results_ctt rfl _ _ (w.heap.size + 1) 74 _ (0, 0) _ rfl (sp.set7 (HS.out.set 4 (.int .i64 (wrap64 (fuse - 1))) rfl).z) Try.underlying74 rfl (by kernel_rfl)) rfl ?_
          exact ⟨by unfold bg.f; rw [if_pos rfl, if_neg (by decide), HQ.out] <;> rfl, dl.below7 _ _ _ _ _ _ _ (HS.out.set 4 (.int .i64 (wrap64 (fuse - 1))) rfl).b⟩
        · have e0 : (fuse == 0) = false := beq_eq_false_iff_ne.mpr hf
          have e1 : decide (0 < fuse) = false := decide_eq_false hg
          have HQ := Aside0.mk (show (if fuse = 0 then (fuse, true, (0 : Int)) else ((if 0 < fuse then wrap64 (fuse - 1) else fuse), false, (0 : Int))) = (fuse, false, 0) by rw [if_neg hf, if_neg hg])
          clear hf hg
          go_wp2
          refine bodyPost_ret (results_ctt rfl _ _ (w.heap.size + 1) 74 _ (0, 0) _ rfl (sp.set7 HS.out.z) Try.underlying74 rfl (by kernel_rfl)) rfl ?_
          exact ⟨by unfold bg.f; rw [if_pos rfl, if_neg (by decide), HQ.out] <;> rfl, dl.below7 _ _ _ _ _ _ _ HS.out.b⟩
/-- The disk's block, the result's, the copy's. -/
structure rf.St (w W : World) (x0 x1 x2 x3 x4 x5 x6 y0 y1 y2 y3 y4 y5 y6 : Value) : Prop where
  d : W.heap[w.heap.size]? = some (.cells #[x0, x1, x2, x3, x4, x5, x6] 74)
  z : W.heap[w.heap.size + 1]? = some (.cells #[.slice none 0 0, .int .i64 0, .slice none 0 0, .int .i64 0, .int .i64 0, .int .i64 0, .bool false] 74)
  c : W.heap[w.heap.size + 2]? = some (.cells #[y0, y1, y2, y3, y4, y5, y6] 74)
  b : Below w.heap.size w W
section
variable {w W W' : World} {x0 x1 x2 x3 x4 x5 x6 y0 y1 y2 y3 y4 y5 y6 : Value}
theorem rf.St.start (w : World) (x0 x1 x2 x3 x4 x5 x6 : Value) : rf.St w (((w.alloc (.cells #[x0, x1, x2, x3, x4, x5, x6] 74)).alloc (.cells #[.slice none 0 0, .int .i64 0, .slice none 0 0, .int .i64 0, .int .i64 0, .int .i64 0, .bool false] 74)).alloc (.cells #[x0, x1, x2, x3, x4, x5, x6] 74)) x0 x1 x2 x3 x4 x5 x6 x0 x1 x2 x3 x4 x5 x6 := by
  obtain ⟨b0, b1, bb, bs⟩ := dl.two w (.cells #[x0, x1, x2, x3, x4, x5, x6] 74) (.cells #[.slice none 0 0, .int .i64 0, .slice none 0 0, .int .i64 0, .int .i64 0, .int .i64 0, .bool false] 74)
  refine ⟨blk_alloc b0 _, blk_alloc b1 _, ?_, below_alloc bb _⟩
  have h := blk_new ((w.alloc (.cells #[x0, x1, x2, x3, x4, x5, x6] 74)).alloc (.cells #[.slice none 0 0, .int .i64 0, .slice none 0 0, .int .i64 0, .int .i64 0, .int .i64 0, .bool false] 74)) (.cells #[x0, x1, x2, x3, x4, x5, x6] 74)
  rw [bs] at h; exact h
theorem rf.St.below (h : rf.St w W x0 x1 x2 x3 x4 x5 x6 y0 y1 y2 y3 y4 y5 y6) (hb : Below W.heap.size W W') : rf.St w W' x0 x1 x2 x3 x4 x5 x6 y0 y1 y2 y3 y4 y5 y6 := ⟨blk_below h.d hb, blk_below h.z hb, blk_below h.c hb, below_step h.b hb⟩
theorem rf.St.drew (h : rf.St w W x0 x1 x2 x3 x4 x5 x6 y0 y1 y2 y3 y4 y5 y6) : rf.St w W.drew x0 x1 x2 x3 x4 x5 x6 y0 y1 y2 y3 y4 y5 y6 := ⟨blk_drew h.d, blk_drew h.z, blk_drew h.c, below_drew1 h.b⟩
theorem rf.St.set (h : rf.St w W x0 x1 x2 x3 x4 x5 x6 y0 y1 y2 y3 y4 y5 y6) (i : Nat) (v : Value) {z0 z1 z2 z3 z4 z5 z6 : Value} (e : (#[x0, x1, x2, x3, x4, x5, x6] : Array Value).setIfInBounds i v = #[z0, z1, z2, z3, z4, z5, z6]) : rf.St w (W.setCell ⟨w.heap.size, i, none⟩ v) z0 z1 z2 z3 z4 z5 z6 y0 y1 y2 y3 y4 y5 y6 :=
  ⟨blk_put h.d i v e, blk_far h.z (show w.heap.size + 1 ≠ w.heap.size by omega) v, blk_far h.c (show w.heap.size + 2 ≠ w.heap.size by omega) v, below_set h.b (Nat.le_refl _)⟩
theorem rf.St.set7 (h : rf.St w W x0 x1 x2 x3 x4 x5 x6 y0 y1 y2 y3 y4 y5 y6) (a b c e f x y : Value) : rf.St w (((((((W.setCell ⟨w.heap.size, 0, none⟩ a).setCell ⟨w.heap.size, 1, none⟩ b).setCell ⟨w.heap.size, 2, none⟩ c).setCell ⟨w.heap.size, 3, none⟩ e).setCell ⟨w.heap.size, 4, none⟩ f).setCell ⟨w.heap.size, 5, none⟩ x).setCell ⟨w.heap.size, 6, none⟩ y) a b c e f x y y0 y1 y2 y3 y4 y5 y6 :=
  ((((((h.set 0 a rfl).set 1 b rfl).set 2 c rfl).set 3 e rfl).set 4 f rfl).set 5 x rfl).set 6 y rfl
end
/-- What a step answers: refused, down, full, the power goes, done. -/
def rp.f (ok full down : Bool) (l0 : List Int) (s0 : Int) (l1 : List Int) (s1 fuse keep : Int) (torn all : Option (List Int × Int × List Int × Int)) : Option (List Int × Int × List Int × Int × Int × Int × Bool × Int) :=
  if ok = true then
    if down = true then some (l0, s0, l1, s1, fuse, keep, down, 14)
    else if full = true then some (l0, s0, l1, s1, fuse, keep, down, 12)
    else if fuse = 0 then torn.bind fun q => (wristbandref17_Lose.f q.1 q.2.1 q.2.2.1 q.2.2.2 0 keep false keep).bind fun r => some (r.1, r.2.1, r.2.2.1, r.2.2.2.1, r.2.2.2.2.1, r.2.2.2.2.2.1, r.2.2.2.2.2.2, 14)
    else all.bind fun q => some (q.1, q.2.1, q.2.2.1, q.2.2.2, (if 0 < fuse then wrap64 (fuse - 1) else fuse), keep, down, 0)
  else some (l0, s0, l1, s1, fuse, keep, down, 1)
theorem rf.bg {A0 : Option Addr} {c0 : Nat} {l0 : List Int} {s0 : Int} {A1 : Option Addr} {c1 : Nat} {l1 : List Int} {s1 fuse keep k : Int} {down : Bool} {w : World} {P0 P2 : Nat → Prop} (hs0 : Kd.V (Kd.int .u8) 5 w w.heap.size P0 (.slice A0 l0.length c0) l0) (hs1 : Kd.V (Kd.int .u8) 5 w w.heap.size P2 (.slice A1 l1.length c1) l1) (ok : Bool) (hok : (dk.right l0.length s0 l1.length s1 fuse keep && (decide (0 ≤ k) && decide (k < 2))) = ok) {f e : Int} {g : Bool} (hf : bg.f ok down fuse = (f, g, e)) (W : World) (hb : Below w.heap.size w W) : Calls Try.prog 101 #[.agg #[.slice A0 l0.length c0, .int .i64 s0, .slice A1 l1.length c1, .int .i64 s1, .int .i64 fuse, .int .i64 keep, .bool down], .int .i64 k] W fun e_ w' => e_ = .returned (.tuple #[.agg #[.slice A0 l0.length c0, .int .i64 s0, .slice A1 l1.length c1, .int .i64 s1, .int .i64 f, .int .i64 keep, .bool down], .bool g, .int .i64 e]) ∧ Below W.heap.size W w' := by
  have h := bg.walk (down := down) ok hok (Kd.C_below (Kd.V_reads' hs0).2.2 hb) (Kd.V_reads' hs0).2.1 (Kd.C_below (Kd.V_reads' hs1).2.2 hb) (Kd.V_reads' hs1).2.1
  rw [hf] at h
  exact h
theorem rf.k01 {a : Bool} {k : Int} (h : (a && (decide (0 ≤ k) && decide (k < 2))) = true) : a = true ∧ (k = 0 ∨ k = 1) := by
  simp only [Bool.and_eq_true, decide_eq_true_eq] at h
  exact ⟨h.1, by omega⟩
def wristbandref17_begin.f : Option Unit := none

end Go.Proofs.Ytnpkhkhlofkbhaa.PDiskRight
