-- made by a program of this session (its printer) out of what Lean prints of the given program
import Derived.Test.YtnpkhkhlofkbhaaPDiskRightx0
import Derived.Test.YtnpkhkhlofkbhaaPDiskRightx1
import Derived.Test.YtnpkhkhlofkbhaaPDiskRightx2
import Derived.Test.YtnpkhkhlofkbhaaPDiskRightx4
namespace Go.Proofs.Ytnpkhkhlofkbhaa.PDiskRight
open Go.RowKit Go.Proofs.YtnpkhkhlofkbhaaW.PrintWords Go.Proofs.YtnpkhkhlofkbhaaW.PrintLast Go.Proofs.YtnpkhkhlofkbhaaW.PrintMore
attribute [local go_sem] max2_int min2_int max_two min_two max_three min_three max_four min_four   -- for this text's walks alone
set_option linter.unusedVariables false
set_option linter.unusedSimpArgs false

/-! ### wristbandref17_Write: function 61 -/
set_option maxHeartbeats 3200000 in
set_option maxRecDepth 100000 in
theorem rf.err61 {A0 : Option Addr} {c0 : Nat} {l0 : List Int} {s0 : Int} {A1 : Option Addr} {c1 : Nat} {l1 : List Int} {s1 fuse keep k : Int} {down : Bool} {w : World} {P0 P2 : Nat → Prop} (Bb : Option Addr) (cb : Nat) (b : List Int) (e9 : Int) (he : (e9 != 0) = true) (he' : (e9 == 0) = false) (hs0 : Kd.V (Kd.int .u8) 5 w w.heap.size P0 (.slice A0 l0.length c0) l0) (hs1 : Kd.V (Kd.int .u8) 5 w w.heap.size P2 (.slice A1 l1.length c1) l1) (HG : ∀ W, Below w.heap.size w W → Calls Try.prog 101 #[.agg #[.slice A0 l0.length c0, .int .i64 s0, .slice A1 l1.length c1, .int .i64 s1, .int .i64 fuse, .int .i64 keep, .bool down], .int .i64 k] W fun e w' => e = .returned (.tuple #[.agg #[.slice A0 l0.length c0, .int .i64 s0, .slice A1 l1.length c1, .int .i64 s1, .int .i64 fuse, .int .i64 keep, .bool down], .bool false, .int .i64 e9]) ∧ Below W.heap.size W w') (r : List Int × Int × List Int × Int × Int × Int × Bool × Int) (h : r = (l0, s0, l1, s1, fuse, keep, down, e9)) :
    Calls Try.prog 61 #[.agg #[.slice A0 l0.length c0, .int .i64 s0, .slice A1 l1.length c1, .int .i64 s1, .int .i64 fuse, .int .i64 keep, .bool down], .int .i64 k, .slice Bb b.length cb] w (fun e w' => ∃ v0_ v2_ : Value, e = .returned (.tuple #[.agg #[v0_, .int .i64 r.2.1, v2_, .int .i64 r.2.2.2.1, .int .i64 r.2.2.2.2.1, .int .i64 r.2.2.2.2.2.1, .bool r.2.2.2.2.2.2.1], .int .i64 r.2.2.2.2.2.2.2]) ∧ Kd.V (Kd.int .u8) 5 w' w.heap.size (fun k_ => ((P0 k_ ∨ P2 k_) ∨ w.heap.size ≤ k_)) v0_ r.1 ∧ Kd.V (Kd.int .u8) 5 w' w.heap.size (fun k_ => ((P0 k_ ∨ P2 k_) ∨ w.heap.size ≤ k_)) v2_ r.2.2.1 ∧ Below w.heap.size w w') := by
  subst h
  have HS := Aside0.mk (rf.St.start w (.slice A0 l0.length c0) (.int .i64 s0) (.slice A1 l1.length c1) (.int .i64 s1) (.int .i64 fuse) (.int .i64 keep) (.bool down))
  have HG_ := Aside0.mk HG
  have HS0 := Aside0.mk hs0
  have HS1 := Aside0.mk hs1
  clear HG hs0 hs1
  go_enter Try.func61, Try.ntmps61
  go_upto_region 2 with fail
  generalize ((w.alloc (.cells #[.slice A0 l0.length c0, .int .i64 s0, .slice A1 l1.length c1, .int .i64 s1, .int .i64 fuse, .int .i64 keep, .bool down] 74)).alloc (.cells #[.slice none 0 0, .int .i64 0, .slice none 0 0, .int .i64 0, .int .i64 0, .int .i64 0, .bool false] 74)).alloc (.cells #[.slice A0 l0.length c0, .int .i64 s0, .slice A1 l1.length c1, .int .i64 s1, .int .i64 fuse, .int .i64 keep, .bool down] 74) = W3 at HS ⊢
  have qa0 := (blk_cell HS.out.d 0).trans rfl; have fqa0 := blk_frozen HS.out.d 0; have qa1 := (blk_cell HS.out.d 1).trans rfl; have fqa1 := blk_frozen HS.out.d 1; have qa2 := (blk_cell HS.out.d 2).trans rfl; have fqa2 := blk_frozen HS.out.d 2; have qa3 := (blk_cell HS.out.d 3).trans rfl; have fqa3 := blk_frozen HS.out.d 3; have qa4 := (blk_cell HS.out.d 4).trans rfl; have fqa4 := blk_frozen HS.out.d 4; have qa5 := (blk_cell HS.out.d 5).trans rfl; have fqa5 := blk_frozen HS.out.d 5; have qa6 := (blk_cell HS.out.d 6).trans rfl; have fqa6 := blk_frozen HS.out.d 6
  go_upto_region 3 with (go_at_call 101; refine Calls.mono (HG_.out _ HS.out.b) ?_; rintro e w4 ⟨rfl, hb⟩; have hs4 := HS.out.below hb; have HS4 := Aside0.mk (hs4.set7 (.slice A0 l0.length c0) (.int .i64 s0) (.slice A1 l1.length c1) (.int .i64 s1) (.int .i64 fuse) (.int .i64 keep) (.bool down)); have qb0 := (blk_cell hs4.d 0).trans rfl; have fqb0 := blk_frozen hs4.d 0; have qb1 := (blk_cell hs4.d 1).trans rfl; have fqb1 := blk_frozen hs4.d 1; have qb2 := (blk_cell hs4.d 2).trans rfl; have fqb2 := blk_frozen hs4.d 2; have qb3 := (blk_cell hs4.d 3).trans rfl; have fqb3 := blk_frozen hs4.d 3; have qb4 := (blk_cell hs4.d 4).trans rfl; have fqb4 := blk_frozen hs4.d 4; have qb5 := (blk_cell hs4.d 5).trans rfl; have fqb5 := blk_frozen hs4.d 5; have qb6 := (blk_cell hs4.d 6).trans rfl; have fqb6 := blk_frozen hs4.d 6; clear hb hs4)
  clear qa0 fqa0 qa1 fqa1 qa2 fqa2 qa3 fqa3 qa4 fqa4 qa5 fqa5 qa6 fqa6
  clear qb0 fqb0 qb1 fqb1 qb2 fqb2 qb3 fqb3 qb4 fqb4 qb5 fqb5 qb6 fqb6
  generalize ((((((w4.setCell ⟨w.heap.size, 0, none⟩ (.slice A0 l0.length c0)).setCell ⟨w.heap.size, 1, none⟩ (.int .i64 s0)).setCell ⟨w.heap.size, 2, none⟩ (.slice A1 l1.length c1)).setCell ⟨w.heap.size, 3, none⟩ (.int .i64 s1)).setCell ⟨w.heap.size, 4, none⟩ (.int .i64 fuse)).setCell ⟨w.heap.size, 5, none⟩ (.int .i64 keep)).setCell ⟨w.heap.size, 6, none⟩ (.bool down) = Wd at HS4 ⊢
  clear HS HG_
  have qd0 := (blk_cell HS4.out.d 0).trans rfl; have fqd0 := blk_frozen HS4.out.d 0; have qd1 := (blk_cell HS4.out.d 1).trans rfl; have fqd1 := blk_frozen HS4.out.d 1; have qd2 := (blk_cell HS4.out.d 2).trans rfl; have fqd2 := blk_frozen HS4.out.d 2; have qd3 := (blk_cell HS4.out.d 3).trans rfl; have fqd3 := blk_frozen HS4.out.d 3; have qd4 := (blk_cell HS4.out.d 4).trans rfl; have fqd4 := blk_frozen HS4.out.d 4; have qd5 := (blk_cell HS4.out.d 5).trans rfl; have fqd5 := blk_frozen HS4.out.d 5; have qd6 := (blk_cell HS4.out.d 6).trans rfl; have fqd6 := blk_frozen HS4.out.d 6
  have qz0 := (blk_cell HS4.out.z 0).trans rfl; have fqz0 := blk_frozen HS4.out.z 0; have qz1 := (blk_cell HS4.out.z 1).trans rfl; have fqz1 := blk_frozen HS4.out.z 1; have qz2 := (blk_cell HS4.out.z 2).trans rfl; have fqz2 := blk_frozen HS4.out.z 2; have qz3 := (blk_cell HS4.out.z 3).trans rfl; have fqz3 := blk_frozen HS4.out.z 3; have qz4 := (blk_cell HS4.out.z 4).trans rfl; have fqz4 := blk_frozen HS4.out.z 4; have qz5 := (blk_cell HS4.out.z 5).trans rfl; have fqz5 := blk_frozen HS4.out.z 5; have qz6 := (blk_cell HS4.out.z 6).trans rfl; have fqz6 := blk_frozen HS4.out.z 6
  have qc0 := (blk_cell HS4.out.c 0).trans rfl; have fqc0 := blk_frozen HS4.out.c 0; have qc1 := (blk_cell HS4.out.c 1).trans rfl; have fqc1 := blk_frozen HS4.out.c 1; have qc2 := (blk_cell HS4.out.c 2).trans rfl; have fqc2 := blk_frozen HS4.out.c 2; have qc3 := (blk_cell HS4.out.c 3).trans rfl; have fqc3 := blk_frozen HS4.out.c 3; have qc4 := (blk_cell HS4.out.c 4).trans rfl; have fqc4 := blk_frozen HS4.out.c 4; have qc5 := (blk_cell HS4.out.c 5).trans rfl; have fqc5 := blk_frozen HS4.out.c 5; have qc6 := (blk_cell HS4.out.c 6).trans rfl; have fqc6 := blk_frozen HS4.out.c 6
  have hzz := blk_lt HS4.out.c
  have HGZ := Aside0.mk (blk_lt HS4.out.z)
  have HWZ := Aside0.mk HS4.out.b.size
  go_wp2
  have hle : w.heap.size ≤ w.heap.size + 1 := by omega
  have hfin := fun a b c d e f x => below_set (j := 6) (v := x) (below_set (j := 5) (v := f) (below_set (j := 4) (v := e) (below_set (j := 3) (v := d) (below_set (j := 2) (v := c) (below_set (j := 1) (v := b) (below_set (j := 0) (v := a) HS4.out.b hle) hle) hle) hle) hle) hle) hle
  refine bodyPost_ret (results_ct rfl _ _ (w.heap.size + 1) 74 _ (0, 0) _ rfl (sp.set7 HS4.out.z) Try.underlying74 rfl (by kernel_rfl)) rfl ?_
  exact ⟨_, _, rfl, sp.Row.fin (W := Wd) _ _ _ _ _ _ _ HS0.out HS1.out (.inl ⟨rfl, rfl⟩) HGZ.out HWZ.out (hfin _ _ _ _ _ _ _), sp.Row.fin (W := Wd) _ _ _ _ _ _ _ HS0.out HS1.out (.inr (.inl ⟨rfl, rfl⟩)) HGZ.out HWZ.out (hfin _ _ _ _ _ _ _), hfin _ _ _ _ _ _ _⟩
set_option maxHeartbeats 3200000 in
set_option maxRecDepth 100000 in
theorem rf.full61_0 {A0 : Option Addr} {c0 : Nat} {l0 : List Int} {s0 : Int} {A1 : Option Addr} {c1 : Nat} {l1 : List Int} {s1 fuse keep f9 : Int} {down : Bool} {w : World} {P0 P2 : Nat → Prop} (Bb : Option Addr) (cb : Nat) (b : List Int) (g9 : Bool) (hs0 : Kd.V (Kd.int .u8) 5 w w.heap.size P0 (.slice A0 l0.length c0) l0) (hs1 : Kd.V (Kd.int .u8) 5 w w.heap.size P2 (.slice A1 l1.length c1) l1) (HG : ∀ W, Below w.heap.size w W → Calls Try.prog 101 #[.agg #[.slice A0 l0.length c0, .int .i64 s0, .slice A1 l1.length c1, .int .i64 s1, .int .i64 fuse, .int .i64 keep, .bool down], .int .i64 0] W fun e w' => e = .returned (.tuple #[.agg #[.slice A0 l0.length c0, .int .i64 s0, .slice A1 l1.length c1, .int .i64 s1, .int .i64 f9, .int .i64 keep, .bool down], .bool g9, .int .i64 0]) ∧ Below W.heap.size W w') (hl : l0.length ≤ 1048576) (hnb : b.length < 140737488355328) (hf : 1048576 < l0.length + b.length) (r : List Int × Int × List Int × Int × Int × Int × Bool × Int) (h : r = (l0, s0, l1, s1, fuse, keep, down, 12)) :
    Calls Try.prog 61 #[.agg #[.slice A0 l0.length c0, .int .i64 s0, .slice A1 l1.length c1, .int .i64 s1, .int .i64 fuse, .int .i64 keep, .bool down], .int .i64 0, .slice Bb b.length cb] w (fun e w' => ∃ v0_ v2_ : Value, e = .returned (.tuple #[.agg #[v0_, .int .i64 r.2.1, v2_, .int .i64 r.2.2.2.1, .int .i64 r.2.2.2.2.1, .int .i64 r.2.2.2.2.2.1, .bool r.2.2.2.2.2.2.1], .int .i64 r.2.2.2.2.2.2.2]) ∧ Kd.V (Kd.int .u8) 5 w' w.heap.size (fun k_ => ((P0 k_ ∨ P2 k_) ∨ w.heap.size ≤ k_)) v0_ r.1 ∧ Kd.V (Kd.int .u8) 5 w' w.heap.size (fun k_ => ((P0 k_ ∨ P2 k_) ∨ w.heap.size ≤ k_)) v2_ r.2.2.1 ∧ Below w.heap.size w w') := by
  subst h
  have b8 : decide (1048576 < l0.length + b.length) = true := decide_eq_true hf
  have b9 : decide ((1048576 : Int) < (l0.length : Int) + (b.length : Int)) = true := decide_eq_true (by omega)
  have hw9 : wrap64 ((l0.length : Int) + (b.length : Int)) = (l0.length : Int) + (b.length : Int) := by unfold wrap64; omega
  clear hf
  have HS := Aside0.mk (rf.St.start w (.slice A0 l0.length c0) (.int .i64 s0) (.slice A1 l1.length c1) (.int .i64 s1) (.int .i64 fuse) (.int .i64 keep) (.bool down))
  have HG_ := Aside0.mk HG
  have HS0 := Aside0.mk hs0
  have HS1 := Aside0.mk hs1
  clear HG hs0 hs1
  go_enter Try.func61, Try.ntmps61
  go_upto_region 2 with fail
  generalize ((w.alloc (.cells #[.slice A0 l0.length c0, .int .i64 s0, .slice A1 l1.length c1, .int .i64 s1, .int .i64 fuse, .int .i64 keep, .bool down] 74)).alloc (.cells #[.slice none 0 0, .int .i64 0, .slice none 0 0, .int .i64 0, .int .i64 0, .int .i64 0, .bool false] 74)).alloc (.cells #[.slice A0 l0.length c0, .int .i64 s0, .slice A1 l1.length c1, .int .i64 s1, .int .i64 fuse, .int .i64 keep, .bool down] 74) = W3 at HS ⊢
  have qa0 := (blk_cell HS.out.d 0).trans rfl; have fqa0 := blk_frozen HS.out.d 0; have qa1 := (blk_cell HS.out.d 1).trans rfl; have fqa1 := blk_frozen HS.out.d 1; have qa2 := (blk_cell HS.out.d 2).trans rfl; have fqa2 := blk_frozen HS.out.d 2; have qa3 := (blk_cell HS.out.d 3).trans rfl; have fqa3 := blk_frozen HS.out.d 3; have qa4 := (blk_cell HS.out.d 4).trans rfl; have fqa4 := blk_frozen HS.out.d 4; have qa5 := (blk_cell HS.out.d 5).trans rfl; have fqa5 := blk_frozen HS.out.d 5; have qa6 := (blk_cell HS.out.d 6).trans rfl; have fqa6 := blk_frozen HS.out.d 6
  go_upto_region 3 with (go_at_call 101; refine Calls.mono (HG_.out _ HS.out.b) ?_; rintro e w4 ⟨rfl, hb⟩; have hs4 := HS.out.below hb; have HS4 := Aside0.mk (hs4.set7 (.slice A0 l0.length c0) (.int .i64 s0) (.slice A1 l1.length c1) (.int .i64 s1) (.int .i64 f9) (.int .i64 keep) (.bool down)); have qb0 := (blk_cell hs4.d 0).trans rfl; have fqb0 := blk_frozen hs4.d 0; have qb1 := (blk_cell hs4.d 1).trans rfl; have fqb1 := blk_frozen hs4.d 1; have qb2 := (blk_cell hs4.d 2).trans rfl; have fqb2 := blk_frozen hs4.d 2; have qb3 := (blk_cell hs4.d 3).trans rfl; have fqb3 := blk_frozen hs4.d 3; have qb4 := (blk_cell hs4.d 4).trans rfl; have fqb4 := blk_frozen hs4.d 4; have qb5 := (blk_cell hs4.d 5).trans rfl; have fqb5 := blk_frozen hs4.d 5; have qb6 := (blk_cell hs4.d 6).trans rfl; have fqb6 := blk_frozen hs4.d 6; clear hb hs4)
  clear qa0 fqa0 qa1 fqa1 qa2 fqa2 qa3 fqa3 qa4 fqa4 qa5 fqa5 qa6 fqa6
  clear qb0 fqb0 qb1 fqb1 qb2 fqb2 qb3 fqb3 qb4 fqb4 qb5 fqb5 qb6 fqb6
  generalize ((((((w4.setCell ⟨w.heap.size, 0, none⟩ (.slice A0 l0.length c0)).setCell ⟨w.heap.size, 1, none⟩ (.int .i64 s0)).setCell ⟨w.heap.size, 2, none⟩ (.slice A1 l1.length c1)).setCell ⟨w.heap.size, 3, none⟩ (.int .i64 s1)).setCell ⟨w.heap.size, 4, none⟩ (.int .i64 f9)).setCell ⟨w.heap.size, 5, none⟩ (.int .i64 keep)).setCell ⟨w.heap.size, 6, none⟩ (.bool down) = Wd at HS4 ⊢
  clear HS HG_
  have qd0 := (blk_cell HS4.out.d 0).trans rfl; have fqd0 := blk_frozen HS4.out.d 0; have qd1 := (blk_cell HS4.out.d 1).trans rfl; have fqd1 := blk_frozen HS4.out.d 1; have qd2 := (blk_cell HS4.out.d 2).trans rfl; have fqd2 := blk_frozen HS4.out.d 2; have qd3 := (blk_cell HS4.out.d 3).trans rfl; have fqd3 := blk_frozen HS4.out.d 3; have qd4 := (blk_cell HS4.out.d 4).trans rfl; have fqd4 := blk_frozen HS4.out.d 4; have qd5 := (blk_cell HS4.out.d 5).trans rfl; have fqd5 := blk_frozen HS4.out.d 5; have qd6 := (blk_cell HS4.out.d 6).trans rfl; have fqd6 := blk_frozen HS4.out.d 6
  have qz0 := (blk_cell HS4.out.z 0).trans rfl; have fqz0 := blk_frozen HS4.out.z 0; have qz1 := (blk_cell HS4.out.z 1).trans rfl; have fqz1 := blk_frozen HS4.out.z 1; have qz2 := (blk_cell HS4.out.z 2).trans rfl; have fqz2 := blk_frozen HS4.out.z 2; have qz3 := (blk_cell HS4.out.z 3).trans rfl; have fqz3 := blk_frozen HS4.out.z 3; have qz4 := (blk_cell HS4.out.z 4).trans rfl; have fqz4 := blk_frozen HS4.out.z 4; have qz5 := (blk_cell HS4.out.z 5).trans rfl; have fqz5 := blk_frozen HS4.out.z 5; have qz6 := (blk_cell HS4.out.z 6).trans rfl; have fqz6 := blk_frozen HS4.out.z 6
  have qc0 := (blk_cell HS4.out.c 0).trans rfl; have fqc0 := blk_frozen HS4.out.c 0; have qc1 := (blk_cell HS4.out.c 1).trans rfl; have fqc1 := blk_frozen HS4.out.c 1; have qc2 := (blk_cell HS4.out.c 2).trans rfl; have fqc2 := blk_frozen HS4.out.c 2; have qc3 := (blk_cell HS4.out.c 3).trans rfl; have fqc3 := blk_frozen HS4.out.c 3; have qc4 := (blk_cell HS4.out.c 4).trans rfl; have fqc4 := blk_frozen HS4.out.c 4; have qc5 := (blk_cell HS4.out.c 5).trans rfl; have fqc5 := blk_frozen HS4.out.c 5; have qc6 := (blk_cell HS4.out.c 6).trans rfl; have fqc6 := blk_frozen HS4.out.c 6
  have hzz := blk_lt HS4.out.c
  have HGZ := Aside0.mk (blk_lt HS4.out.z)
  have HWZ := Aside0.mk HS4.out.b.size
  go_wp2
  have hle : w.heap.size ≤ w.heap.size + 1 := by omega
  have hfin := fun a b c d e f x => below_set (j := 6) (v := x) (below_set (j := 5) (v := f) (below_set (j := 4) (v := e) (below_set (j := 3) (v := d) (below_set (j := 2) (v := c) (below_set (j := 1) (v := b) (below_set (j := 0) (v := a) HS4.out.b hle) hle) hle) hle) hle) hle) hle
  refine bodyPost_ret (results_ct rfl _ _ (w.heap.size + 1) 74 _ (0, 0) _ rfl (sp.set7 HS4.out.z) Try.underlying74 rfl (by kernel_rfl)) rfl ?_
  exact ⟨_, _, rfl, sp.Row.fin (W := Wd) _ _ _ _ _ _ _ HS0.out HS1.out (.inl ⟨rfl, rfl⟩) HGZ.out HWZ.out (hfin _ _ _ _ _ _ _), sp.Row.fin (W := Wd) _ _ _ _ _ _ _ HS0.out HS1.out (.inr (.inl ⟨rfl, rfl⟩)) HGZ.out HWZ.out (hfin _ _ _ _ _ _ _), hfin _ _ _ _ _ _ _⟩
set_option maxHeartbeats 3200000 in
set_option maxRecDepth 100000 in
theorem rf.done61_0 {A0 : Option Addr} {c0 : Nat} {l0 : List Int} {s0 : Int} {A1 : Option Addr} {c1 : Nat} {l1 : List Int} {s1 fuse keep f9 : Int} {down : Bool} {w : World} {P0 P2 : Nat → Prop} (Bb : Option Addr) (cb : Nat) (b : List Int) (hs0 : Kd.V (Kd.int .u8) 5 w w.heap.size P0 (.slice A0 l0.length c0) l0) (hs1 : Kd.V (Kd.int .u8) 5 w w.heap.size P2 (.slice A1 l1.length c1) l1) (HG : ∀ W, Below w.heap.size w W → Calls Try.prog 101 #[.agg #[.slice A0 l0.length c0, .int .i64 s0, .slice A1 l1.length c1, .int .i64 s1, .int .i64 fuse, .int .i64 keep, .bool down], .int .i64 0] W fun e w' => e = .returned (.tuple #[.agg #[.slice A0 l0.length c0, .int .i64 s0, .slice A1 l1.length c1, .int .i64 s1, .int .i64 f9, .int .i64 keep, .bool down], .bool false, .int .i64 0]) ∧ Below W.heap.size W w') (hrb : Kd.C (Kd.int .u8) w Bb b.length b) (hcb : b.length ≤ cb) (hnb : b.length < 140737488355328) (hl : l0.length ≤ 1048576) (hf : ¬ 1048576 < l0.length + b.length) (yy : List Int) (hyy : yy = (l0 ++ b)) (r : List Int × Int × List Int × Int × Int × Int × Bool × Int) (h : r = (yy, s0, l1, s1, f9, keep, down, 0)) :
    Calls Try.prog 61 #[.agg #[.slice A0 l0.length c0, .int .i64 s0, .slice A1 l1.length c1, .int .i64 s1, .int .i64 fuse, .int .i64 keep, .bool down], .int .i64 0, .slice Bb b.length cb] w (fun e w' => ∃ v0_ v2_ : Value, e = .returned (.tuple #[.agg #[v0_, .int .i64 r.2.1, v2_, .int .i64 r.2.2.2.1, .int .i64 r.2.2.2.2.1, .int .i64 r.2.2.2.2.2.1, .bool r.2.2.2.2.2.2.1], .int .i64 r.2.2.2.2.2.2.2]) ∧ Kd.V (Kd.int .u8) 5 w' w.heap.size (fun k_ => ((P0 k_ ∨ P2 k_) ∨ w.heap.size ≤ k_)) v0_ r.1 ∧ Kd.V (Kd.int .u8) 5 w' w.heap.size (fun k_ => ((P0 k_ ∨ P2 k_) ∨ w.heap.size ≤ k_)) v2_ r.2.2.1 ∧ Below w.heap.size w w') := by
  have b8 : decide (1048576 < l0.length + b.length) = false := decide_eq_false hf
  have b9 : decide ((1048576 : Int) < (l0.length : Int) + (b.length : Int)) = false := decide_eq_false (by omega)
  have hw9 : wrap64 ((l0.length : Int) + (b.length : Int)) = (l0.length : Int) + (b.length : Int) := by unfold wrap64; omega
  have HLk := Aside0.mk hl
  have HNb := Aside0.mk (show l0.length + b.length ≤ 1048576 by omega)
  have HYY := Aside0.mk hyy
  clear hyy
  subst h
  have HRb := Aside0.mk hrb
  have HNy := Aside0.mk (Nat.le_refl b.length)
  clear hrb hcb hf hl hnb
  have HS := Aside0.mk (rf.St.start w (.slice A0 l0.length c0) (.int .i64 s0) (.slice A1 l1.length c1) (.int .i64 s1) (.int .i64 fuse) (.int .i64 keep) (.bool down))
  have HG_ := Aside0.mk HG
  have HS0 := Aside0.mk hs0
  have HS1 := Aside0.mk hs1
  clear HG hs0 hs1
  go_enter Try.func61, Try.ntmps61
  go_upto_region 2 with fail
  generalize ((w.alloc (.cells #[.slice A0 l0.length c0, .int .i64 s0, .slice A1 l1.length c1, .int .i64 s1, .int .i64 fuse, .int .i64 keep, .bool down] 74)).alloc (.cells #[.slice none 0 0, .int .i64 0, .slice none 0 0, .int .i64 0, .int .i64 0, .int .i64 0, .bool false] 74)).alloc (.cells #[.slice A0 l0.length c0, .int .i64 s0, .slice A1 l1.length c1, .int .i64 s1, .int .i64 fuse, .int .i64 keep, .bool down] 74) = W3 at HS ⊢
  have qa0 := (blk_cell HS.out.d 0).trans rfl; have fqa0 := blk_frozen HS.out.d 0; have qa1 := (blk_cell HS.out.d 1).trans rfl; have fqa1 := blk_frozen HS.out.d 1; have qa2 := (blk_cell HS.out.d 2).trans rfl; have fqa2 := blk_frozen HS.out.d 2; have qa3 := (blk_cell HS.out.d 3).trans rfl; have fqa3 := blk_frozen HS.out.d 3; have qa4 := (blk_cell HS.out.d 4).trans rfl; have fqa4 := blk_frozen HS.out.d 4; have qa5 := (blk_cell HS.out.d 5).trans rfl; have fqa5 := blk_frozen HS.out.d 5; have qa6 := (blk_cell HS.out.d 6).trans rfl; have fqa6 := blk_frozen HS.out.d 6
  go_upto_region 3 with (go_at_call 101; refine Calls.mono (HG_.out _ HS.out.b) ?_; rintro e w4 ⟨rfl, hb⟩; have hs4 := HS.out.below hb; have HS4 := Aside0.mk (hs4.set7 (.slice A0 l0.length c0) (.int .i64 s0) (.slice A1 l1.length c1) (.int .i64 s1) (.int .i64 f9) (.int .i64 keep) (.bool down)); have qb0 := (blk_cell hs4.d 0).trans rfl; have fqb0 := blk_frozen hs4.d 0; have qb1 := (blk_cell hs4.d 1).trans rfl; have fqb1 := blk_frozen hs4.d 1; have qb2 := (blk_cell hs4.d 2).trans rfl; have fqb2 := blk_frozen hs4.d 2; have qb3 := (blk_cell hs4.d 3).trans rfl; have fqb3 := blk_frozen hs4.d 3; have qb4 := (blk_cell hs4.d 4).trans rfl; have fqb4 := blk_frozen hs4.d 4; have qb5 := (blk_cell hs4.d 5).trans rfl; have fqb5 := blk_frozen hs4.d 5; have qb6 := (blk_cell hs4.d 6).trans rfl; have fqb6 := blk_frozen hs4.d 6; clear hb hs4)
  clear qa0 fqa0 qa1 fqa1 qa2 fqa2 qa3 fqa3 qa4 fqa4 qa5 fqa5 qa6 fqa6
  clear qb0 fqb0 qb1 fqb1 qb2 fqb2 qb3 fqb3 qb4 fqb4 qb5 fqb5 qb6 fqb6
  generalize ((((((w4.setCell ⟨w.heap.size, 0, none⟩ (.slice A0 l0.length c0)).setCell ⟨w.heap.size, 1, none⟩ (.int .i64 s0)).setCell ⟨w.heap.size, 2, none⟩ (.slice A1 l1.length c1)).setCell ⟨w.heap.size, 3, none⟩ (.int .i64 s1)).setCell ⟨w.heap.size, 4, none⟩ (.int .i64 f9)).setCell ⟨w.heap.size, 5, none⟩ (.int .i64 keep)).setCell ⟨w.heap.size, 6, none⟩ (.bool down) = Wd at HS4 ⊢
  clear HS HG_
  have qd0 := (blk_cell HS4.out.d 0).trans rfl; have fqd0 := blk_frozen HS4.out.d 0; have qd1 := (blk_cell HS4.out.d 1).trans rfl; have fqd1 := blk_frozen HS4.out.d 1; have qd2 := (blk_cell HS4.out.d 2).trans rfl; have fqd2 := blk_frozen HS4.out.d 2; have qd3 := (blk_cell HS4.out.d 3).trans rfl; have fqd3 := blk_frozen HS4.out.d 3; have qd4 := (blk_cell HS4.out.d 4).trans rfl; have fqd4 := blk_frozen HS4.out.d 4; have qd5 := (blk_cell HS4.out.d 5).trans rfl; have fqd5 := blk_frozen HS4.out.d 5; have qd6 := (blk_cell HS4.out.d 6).trans rfl; have fqd6 := blk_frozen HS4.out.d 6
  have qz0 := (blk_cell HS4.out.z 0).trans rfl; have fqz0 := blk_frozen HS4.out.z 0; have qz1 := (blk_cell HS4.out.z 1).trans rfl; have fqz1 := blk_frozen HS4.out.z 1; have qz2 := (blk_cell HS4.out.z 2).trans rfl; have fqz2 := blk_frozen HS4.out.z 2; have qz3 := (blk_cell HS4.out.z 3).trans rfl; have fqz3 := blk_frozen HS4.out.z 3; have qz4 := (blk_cell HS4.out.z 4).trans rfl; have fqz4 := blk_frozen HS4.out.z 4; have qz5 := (blk_cell HS4.out.z 5).trans rfl; have fqz5 := blk_frozen HS4.out.z 5; have qz6 := (blk_cell HS4.out.z 6).trans rfl; have fqz6 := blk_frozen HS4.out.z 6
  have qc0 := (blk_cell HS4.out.c 0).trans rfl; have fqc0 := blk_frozen HS4.out.c 0; have qc1 := (blk_cell HS4.out.c 1).trans rfl; have fqc1 := blk_frozen HS4.out.c 1; have qc2 := (blk_cell HS4.out.c 2).trans rfl; have fqc2 := blk_frozen HS4.out.c 2; have qc3 := (blk_cell HS4.out.c 3).trans rfl; have fqc3 := blk_frozen HS4.out.c 3; have qc4 := (blk_cell HS4.out.c 4).trans rfl; have fqc4 := blk_frozen HS4.out.c 4; have qc5 := (blk_cell HS4.out.c 5).trans rfl; have fqc5 := blk_frozen HS4.out.c 5; have qc6 := (blk_cell HS4.out.c 6).trans rfl; have fqc6 := blk_frozen HS4.out.c 6
  have hzz := blk_lt HS4.out.c
  have HGZ := Aside0.mk (blk_lt HS4.out.z)
  have HWZ := Aside0.mk HS4.out.b.size
  go_upto_region 10 with (first
    | ((with_reducible refine gate_dst (N := 47) rfl ?_); refine Kd.R_lit (Kd.int .u8) _ 5 ?hg (N := 47) ?hd (xs := ([] : List Int)) (inner := []) (ok := fun _ => True) (okp := fun _ => True) ?hr ?hp (fun _ hk => hk) trivial (Below.refl _ _) (Nat.le_refl _) (by simp) ?_; (case hd => rfl); (case hg => rfl); (case hr => first | (go_simp; done) | (go_simp; rfl)); (case hp => exact (Reps.none _ _)); intro v1 w1 ho hb _ _; have HO := Aside0.mk ho; have HBa := Aside0.mk hb; have hs5 := HS4.out.below hb; have HS5 := Aside0.mk hs5; have ca0 := (blk_cell hs5.d 0).trans rfl; clear ho hb hs5)
    | ((with_reducible refine gate_builtin (b := .append) (xs := #[.tmp 47, .tmp 52]) rfl ?_); at_builtin; refine Kd.R_append_rows (Kd.int .u8) (w0 := Wd) Wd.heap.size rfl (.tmp 47) (.tmp 52) 22 5 (.int .u8 0) 1 rfl Try.underlying22 info5 rfl (by decide) (by omega) v1 [] l0 _ _ _ (fun _ => True) (fun _ => False) rfl rfl ?aO ?aR (fun _ _ h => h) (fun _ h => h.elim) ?aF ?aB ?aS ?aL ?_; (case aR => exact Kd.C_below (Kd.V_reads' HS0.out).2.2 HS5.out.b); (case aB => exact HBa.out); (case aF => exact (fun _ _ => trivial)); (case aO => exact HO.out); (case aS => exact HBa.out.size); (case aL => have := HLk.out; have := HNb.out; have := HNy.out; (try simp only [List.length_nil]); omega); intro v2 w2 ho hb hg hat; rw [List.nil_append] at ho; have HO2 := Aside0.mk ho; have HBc := Aside0.mk hb; have HS6 := Aside0.mk (HS4.out.below hb); clear ho hb hg hat)
    | ((with_reducible refine gate_builtin (b := .append) (xs := #[.tmp 53, .tmp 54]) rfl ?_); at_builtin; refine Kd.R_append_rows (Kd.int .u8) (w0 := Wd) Wd.heap.size rfl (.tmp 53) (.tmp 54) 22 5 (.int .u8 0) 1 rfl Try.underlying22 info5 rfl (by decide) (by omega) v2 l0 b _ _ _ (fun _ => True) (fun _ => False) rfl rfl ?aO ?aR (fun _ _ h => h) (fun _ h => h.elim) ?aF ?aB ?aS ?aL ?_; (case aR => exact Kd.C_below HRb.out HS6.out.b); (case aB => exact HBc.out); (case aF => exact (fun _ _ => trivial)); (case aO => exact HO2.out); (case aS => exact HBc.out.size); (case aL => have := HLk.out; have := HNb.out; have := HNy.out; (try simp only [List.length_nil]); omega); intro v3 w3 ho hb hg hat; rw [← HYY.out] at ho; obtain ⟨Fv, fc, rfl⟩ := Kd.R_slice ho; have hs7 := HS4.out.below hb; have HO3 := Aside0.mk (dl.mv (i := 0) (x := .slice Fv yy.length fc) (show w.heap.size ≤ w.heap.size + 1 by omega) (fun k_ hk => hk) (Kd.R_mono (Kd.R_bound ho) (fun k_ hk => show w.heap.size + 1 < k_ from by have := hk.2.1; have := blk_lt HS4.out.c; omega))); have HS7 := Aside0.mk (hs7.set 0 (.slice Fv yy.length fc) rfl); have qw0 := (blk_cell hs7.d 0).trans rfl; have fqw0 := blk_frozen hs7.d 0; have qw1 := (blk_cell hs7.d 1).trans rfl; have fqw1 := blk_frozen hs7.d 1; have qw2 := (blk_cell hs7.d 2).trans rfl; have fqw2 := blk_frozen hs7.d 2; have qw3 := (blk_cell hs7.d 3).trans rfl; have fqw3 := blk_frozen hs7.d 3; have qw4 := (blk_cell hs7.d 4).trans rfl; have fqw4 := blk_frozen hs7.d 4; have qw5 := (blk_cell hs7.d 5).trans rfl; have fqw5 := blk_frozen hs7.d 5; have qw6 := (blk_cell hs7.d 6).trans rfl; have fqw6 := blk_frozen hs7.d 6; clear ho hb hg hat hs7))
  clear qd0 fqd0 qd1 fqd1 qd2 fqd2 qd3 fqd3 qd4 fqd4 qd5 fqd5 qd6 fqd6
  clear qz0 fqz0 qz1 fqz1 qz2 fqz2 qz3 fqz3 qz4 fqz4 qz5 fqz5 qz6 fqz6
  clear qc0 fqc0 qc1 fqc1 qc2 fqc2 qc3 fqc3 qc4 fqc4 qc5 fqc5 qc6 fqc6
  clear qw0 fqw0 qw1 fqw1 qw2 fqw2 qw3 fqw3 qw4 fqw4 qw5 fqw5 qw6 fqw6
  generalize w3.setCell ⟨w.heap.size, 0, none⟩ (.slice Fv yy.length fc) = We at HS7 HO3 ⊢
  clear HS4 HO HO2 HS5 HS6 HBa HBc ca0 hzz
  have qe0 := (blk_cell HS7.out.d 0).trans rfl; have fqe0 := blk_frozen HS7.out.d 0; have qe1 := (blk_cell HS7.out.d 1).trans rfl; have fqe1 := blk_frozen HS7.out.d 1; have qe2 := (blk_cell HS7.out.d 2).trans rfl; have fqe2 := blk_frozen HS7.out.d 2; have qe3 := (blk_cell HS7.out.d 3).trans rfl; have fqe3 := blk_frozen HS7.out.d 3; have qe4 := (blk_cell HS7.out.d 4).trans rfl; have fqe4 := blk_frozen HS7.out.d 4; have qe5 := (blk_cell HS7.out.d 5).trans rfl; have fqe5 := blk_frozen HS7.out.d 5; have qe6 := (blk_cell HS7.out.d 6).trans rfl; have fqe6 := blk_frozen HS7.out.d 6
  have qf0 := (blk_cell HS7.out.z 0).trans rfl; have fqf0 := blk_frozen HS7.out.z 0; have qf1 := (blk_cell HS7.out.z 1).trans rfl; have fqf1 := blk_frozen HS7.out.z 1; have qf2 := (blk_cell HS7.out.z 2).trans rfl; have fqf2 := blk_frozen HS7.out.z 2; have qf3 := (blk_cell HS7.out.z 3).trans rfl; have fqf3 := blk_frozen HS7.out.z 3; have qf4 := (blk_cell HS7.out.z 4).trans rfl; have fqf4 := blk_frozen HS7.out.z 4; have qf5 := (blk_cell HS7.out.z 5).trans rfl; have fqf5 := blk_frozen HS7.out.z 5; have qf6 := (blk_cell HS7.out.z 6).trans rfl; have fqf6 := blk_frozen HS7.out.z 6
  have hzx := blk_lt HS7.out.z
  go_wp2
  have hle : w.heap.size ≤ w.heap.size + 1 := by omega
  have hfin := fun a b c d e f x => below_set (j := 6) (v := x) (below_set (j := 5) (v := f) (below_set (j := 4) (v := e) (below_set (j := 3) (v := d) (below_set (j := 2) (v := c) (below_set (j := 1) (v := b) (below_set (j := 0) (v := a) HS7.out.b hle) hle) hle) hle) hle) hle) hle
  refine bodyPost_ret (results_ct rfl _ _ (w.heap.size + 1) 74 _ (0, 0) _ rfl (sp.set7 HS7.out.z) Try.underlying74 rfl (by kernel_rfl)) rfl ?_
  exact ⟨_, _, rfl, sp.Row.fin (W := Wd) _ _ _ _ _ _ _ HS0.out HS1.out (.inr (.inr (Kd.R_mono HO3.out (fun _ _ => trivial)))) HGZ.out HWZ.out (hfin _ _ _ _ _ _ _), sp.Row.fin (W := Wd) _ _ _ _ _ _ _ HS0.out HS1.out (.inr (.inl ⟨rfl, rfl⟩)) HGZ.out HWZ.out (hfin _ _ _ _ _ _ _), hfin _ _ _ _ _ _ _⟩
set_option maxHeartbeats 3200000 in
set_option maxRecDepth 100000 in
theorem rf.goes61_0c {A0 : Option Addr} {c0 : Nat} {l0 : List Int} {s0 : Int} {A1 : Option Addr} {c1 : Nat} {l1 : List Int} {s1 fuse keep f9 : Int} {down : Bool} {w : World} {P0 P2 : Nat → Prop} (Bb : Option Addr) (cb : Nat) (b : List Int) (hs0 : Kd.V (Kd.int .u8) 5 w w.heap.size P0 (.slice A0 l0.length c0) l0) (hs1 : Kd.V (Kd.int .u8) 5 w w.heap.size P2 (.slice A1 l1.length c1) l1) (HG : ∀ W, Below w.heap.size w W → Calls Try.prog 101 #[.agg #[.slice A0 l0.length c0, .int .i64 s0, .slice A1 l1.length c1, .int .i64 s1, .int .i64 0, .int .i64 keep, .bool false], .int .i64 0] W fun e w' => e = .returned (.tuple #[.agg #[.slice A0 l0.length c0, .int .i64 s0, .slice A1 l1.length c1, .int .i64 s1, .int .i64 0, .int .i64 keep, .bool false], .bool true, .int .i64 0]) ∧ Below W.heap.size W w') (hrb : Kd.C (Kd.int .u8) w Bb b.length b) (hcb : b.length ≤ cb) (hnb : b.length < 140737488355328) (hl : l0.length ≤ 1048576) (hf : ¬ 1048576 < l0.length + b.length) (h0k : 0 ≤ keep) (hkb : keep < (b.length : Int)) (y9 : List Int) (hy9 : y9 = b.take keep.toNat) (yy : List Int) (hyy : yy = (l0 ++ y9)) (r : List Int × Int × List Int × Int × Int × Int × Bool × Int) (h : ((wristbandref17_Lose.f yy s0 l1 s1 0 keep false keep).bind fun r => some (r.1, r.2.1, r.2.2.1, r.2.2.2.1, r.2.2.2.2.1, r.2.2.2.2.2.1, r.2.2.2.2.2.2, (14 : Int))) = some r) :
    Calls Try.prog 61 #[.agg #[.slice A0 l0.length c0, .int .i64 s0, .slice A1 l1.length c1, .int .i64 s1, .int .i64 0, .int .i64 keep, .bool false], .int .i64 0, .slice Bb b.length cb] w (fun e w' => ∃ v0_ v2_ : Value, e = .returned (.tuple #[.agg #[v0_, .int .i64 r.2.1, v2_, .int .i64 r.2.2.2.1, .int .i64 r.2.2.2.2.1, .int .i64 r.2.2.2.2.2.1, .bool r.2.2.2.2.2.2.1], .int .i64 r.2.2.2.2.2.2.2]) ∧ Kd.V (Kd.int .u8) 5 w' w.heap.size (fun k_ => ((P0 k_ ∨ P2 k_) ∨ w.heap.size ≤ k_)) v0_ r.1 ∧ Kd.V (Kd.int .u8) 5 w' w.heap.size (fun k_ => ((P0 k_ ∨ P2 k_) ∨ w.heap.size ≤ k_)) v2_ r.2.2.1 ∧ Below w.heap.size w w') := by
  have b8 : decide (1048576 < l0.length + b.length) = false := decide_eq_false hf
  have b9 : decide ((1048576 : Int) < (l0.length : Int) + (b.length : Int)) = false := decide_eq_false (by omega)
  have hw9 : wrap64 ((l0.length : Int) + (b.length : Int)) = (l0.length : Int) + (b.length : Int) := by unfold wrap64; omega
  have HLk := Aside0.mk hl
  have HNb := Aside0.mk (show l0.length + b.length ≤ 1048576 by omega)
  have HYY := Aside0.mk hyy
  clear hyy
  have b7 : decide (keep < (b.length : Int)) = true := decide_eq_true hkb
  obtain ⟨⟨x1, x2, x3, x4, x5, x6, x7⟩, hL, h⟩ := Option.bind_eq_some_iff.1 h
  obtain rfl := Option.some.inj h
  clear h
  have HLo := Aside0.mk hL
  clear hL
  obtain ⟨i0, hi0, _, _, _⟩ := info_parts info5
  have hcut := cut_to (P := Try.prog) 22 5 .i64 Try.underlying22 hi0 Bb b.length cb keep h0k (by omega) hcb
  have hq : y9.length = keep.toNat := by rw [hy9, List.length_take]; omega
  rw [← hq] at hcut
  have HRb : Aside0 (Kd.C (Kd.int .u8) w Bb y9.length y9) := by rw [hy9]; exact ⟨Kd.C_take (m := keep.toNat) hrb (by omega)⟩
  have HNy := Aside0.mk (show y9.length ≤ b.length by omega)
  clear hq hy9 hi0 hkb h0k hrb hcb hf hl hnb
  have HS := Aside0.mk (rf.St.start w (.slice A0 l0.length c0) (.int .i64 s0) (.slice A1 l1.length c1) (.int .i64 s1) (.int .i64 0) (.int .i64 keep) (.bool false))
  have HG_ := Aside0.mk HG
  have HS0 := Aside0.mk hs0
  have HS1 := Aside0.mk hs1
  clear HG hs0 hs1
  go_enter Try.func61, Try.ntmps61
  go_upto_region 2 with fail
  generalize ((w.alloc (.cells #[.slice A0 l0.length c0, .int .i64 s0, .slice A1 l1.length c1, .int .i64 s1, .int .i64 0, .int .i64 keep, .bool false] 74)).alloc (.cells #[.slice none 0 0, .int .i64 0, .slice none 0 0, .int .i64 0, .int .i64 0, .int .i64 0, .bool false] 74)).alloc (.cells #[.slice A0 l0.length c0, .int .i64 s0, .slice A1 l1.length c1, .int .i64 s1, .int .i64 0, .int .i64 keep, .bool false] 74) = W3 at HS ⊢
  have qa0 := (blk_cell HS.out.d 0).trans rfl; have fqa0 := blk_frozen HS.out.d 0; have qa1 := (blk_cell HS.out.d 1).trans rfl; have fqa1 := blk_frozen HS.out.d 1; have qa2 := (blk_cell HS.out.d 2).trans rfl; have fqa2 := blk_frozen HS.out.d 2; have qa3 := (blk_cell HS.out.d 3).trans rfl; have fqa3 := blk_frozen HS.out.d 3; have qa4 := (blk_cell HS.out.d 4).trans rfl; have fqa4 := blk_frozen HS.out.d 4; have qa5 := (blk_cell HS.out.d 5).trans rfl; have fqa5 := blk_frozen HS.out.d 5; have qa6 := (blk_cell HS.out.d 6).trans rfl; have fqa6 := blk_frozen HS.out.d 6
  go_upto_region 3 with (go_at_call 101; refine Calls.mono (HG_.out _ HS.out.b) ?_; rintro e w4 ⟨rfl, hb⟩; have hs4 := HS.out.below hb; have HS4 := Aside0.mk (hs4.set7 (.slice A0 l0.length c0) (.int .i64 s0) (.slice A1 l1.length c1) (.int .i64 s1) (.int .i64 0) (.int .i64 keep) (.bool false)); have qb0 := (blk_cell hs4.d 0).trans rfl; have fqb0 := blk_frozen hs4.d 0; have qb1 := (blk_cell hs4.d 1).trans rfl; have fqb1 := blk_frozen hs4.d 1; have qb2 := (blk_cell hs4.d 2).trans rfl; have fqb2 := blk_frozen hs4.d 2; have qb3 := (blk_cell hs4.d 3).trans rfl; have fqb3 := blk_frozen hs4.d 3; have qb4 := (blk_cell hs4.d 4).trans rfl; have fqb4 := blk_frozen hs4.d 4; have qb5 := (blk_cell hs4.d 5).trans rfl; have fqb5 := blk_frozen hs4.d 5; have qb6 := (blk_cell hs4.d 6).trans rfl; have fqb6 := blk_frozen hs4.d 6; clear hb hs4)
  clear qa0 fqa0 qa1 fqa1 qa2 fqa2 qa3 fqa3 qa4 fqa4 qa5 fqa5 qa6 fqa6
  clear qb0 fqb0 qb1 fqb1 qb2 fqb2 qb3 fqb3 qb4 fqb4 qb5 fqb5 qb6 fqb6
  generalize ((((((w4.setCell ⟨w.heap.size, 0, none⟩ (.slice A0 l0.length c0)).setCell ⟨w.heap.size, 1, none⟩ (.int .i64 s0)).setCell ⟨w.heap.size, 2, none⟩ (.slice A1 l1.length c1)).setCell ⟨w.heap.size, 3, none⟩ (.int .i64 s1)).setCell ⟨w.heap.size, 4, none⟩ (.int .i64 0)).setCell ⟨w.heap.size, 5, none⟩ (.int .i64 keep)).setCell ⟨w.heap.size, 6, none⟩ (.bool false) = Wd at HS4 ⊢
  clear HS HG_
  have qd0 := (blk_cell HS4.out.d 0).trans rfl; have fqd0 := blk_frozen HS4.out.d 0; have qd1 := (blk_cell HS4.out.d 1).trans rfl; have fqd1 := blk_frozen HS4.out.d 1; have qd2 := (blk_cell HS4.out.d 2).trans rfl; have fqd2 := blk_frozen HS4.out.d 2; have qd3 := (blk_cell HS4.out.d 3).trans rfl; have fqd3 := blk_frozen HS4.out.d 3; have qd4 := (blk_cell HS4.out.d 4).trans rfl; have fqd4 := blk_frozen HS4.out.d 4; have qd5 := (blk_cell HS4.out.d 5).trans rfl; have fqd5 := blk_frozen HS4.out.d 5; have qd6 := (blk_cell HS4.out.d 6).trans rfl; have fqd6 := blk_frozen HS4.out.d 6
  have qz0 := (blk_cell HS4.out.z 0).trans rfl; have fqz0 := blk_frozen HS4.out.z 0; have qz1 := (blk_cell HS4.out.z 1).trans rfl; have fqz1 := blk_frozen HS4.out.z 1; have qz2 := (blk_cell HS4.out.z 2).trans rfl; have fqz2 := blk_frozen HS4.out.z 2; have qz3 := (blk_cell HS4.out.z 3).trans rfl; have fqz3 := blk_frozen HS4.out.z 3; have qz4 := (blk_cell HS4.out.z 4).trans rfl; have fqz4 := blk_frozen HS4.out.z 4; have qz5 := (blk_cell HS4.out.z 5).trans rfl; have fqz5 := blk_frozen HS4.out.z 5; have qz6 := (blk_cell HS4.out.z 6).trans rfl; have fqz6 := blk_frozen HS4.out.z 6
  have qc0 := (blk_cell HS4.out.c 0).trans rfl; have fqc0 := blk_frozen HS4.out.c 0; have qc1 := (blk_cell HS4.out.c 1).trans rfl; have fqc1 := blk_frozen HS4.out.c 1; have qc2 := (blk_cell HS4.out.c 2).trans rfl; have fqc2 := blk_frozen HS4.out.c 2; have qc3 := (blk_cell HS4.out.c 3).trans rfl; have fqc3 := blk_frozen HS4.out.c 3; have qc4 := (blk_cell HS4.out.c 4).trans rfl; have fqc4 := blk_frozen HS4.out.c 4; have qc5 := (blk_cell HS4.out.c 5).trans rfl; have fqc5 := blk_frozen HS4.out.c 5; have qc6 := (blk_cell HS4.out.c 6).trans rfl; have fqc6 := blk_frozen HS4.out.c 6
  have hzz := blk_lt HS4.out.c
  have HGZ := Aside0.mk (blk_lt HS4.out.z)
  have HWZ := Aside0.mk HS4.out.b.size
  go_upto_region 10 with (first
    | ((with_reducible refine gate_dst (N := 47) rfl ?_); refine Kd.R_lit (Kd.int .u8) _ 5 ?hg (N := 47) ?hd (xs := ([] : List Int)) (inner := []) (ok := fun _ => True) (okp := fun _ => True) ?hr ?hp (fun _ hk => hk) trivial (Below.refl _ _) (Nat.le_refl _) (by simp) ?_; (case hd => rfl); (case hg => rfl); (case hr => first | (go_simp; done) | (go_simp; rfl)); (case hp => exact (Reps.none _ _)); intro v1 w1 ho hb _ _; have HO := Aside0.mk ho; have HBa := Aside0.mk hb; have hs5 := HS4.out.below hb; have HS5 := Aside0.mk hs5; have ca0 := (blk_cell hs5.d 0).trans rfl; clear ho hb hs5)
    | ((with_reducible refine gate_builtin (b := .append) (xs := #[.tmp 47, .tmp 52]) rfl ?_); at_builtin; refine Kd.R_append_rows (Kd.int .u8) (w0 := Wd) Wd.heap.size rfl (.tmp 47) (.tmp 52) 22 5 (.int .u8 0) 1 rfl Try.underlying22 info5 rfl (by decide) (by omega) v1 [] l0 _ _ _ (fun _ => True) (fun _ => False) rfl rfl ?aO ?aR (fun _ _ h => h) (fun _ h => h.elim) ?aF ?aB ?aS ?aL ?_; (case aR => exact Kd.C_below (Kd.V_reads' HS0.out).2.2 HS5.out.b); (case aB => exact HBa.out); (case aF => exact (fun _ _ => trivial)); (case aO => exact HO.out); (case aS => exact HBa.out.size); (case aL => have := HLk.out; have := HNb.out; have := HNy.out; (try simp only [List.length_nil]); omega); intro v2 w2 ho hb hg hat; rw [List.nil_append] at ho; have HO2 := Aside0.mk ho; have HBc := Aside0.mk hb; have HS6 := Aside0.mk (HS4.out.below hb); clear ho hb hg hat)
    | ((with_reducible refine gate_builtin (b := .append) (xs := #[.tmp 53, .tmp 54]) rfl ?_); at_builtin; refine Kd.R_append_rows (Kd.int .u8) (w0 := Wd) Wd.heap.size rfl (.tmp 53) (.tmp 54) 22 5 (.int .u8 0) 1 rfl Try.underlying22 info5 rfl (by decide) (by omega) v2 l0 y9 _ _ _ (fun _ => True) (fun _ => False) rfl rfl ?aO ?aR (fun _ _ h => h) (fun _ h => h.elim) ?aF ?aB ?aS ?aL ?_; (case aR => exact Kd.C_below HRb.out HS6.out.b); (case aB => exact HBc.out); (case aF => exact (fun _ _ => trivial)); (case aO => exact HO2.out); (case aS => exact HBc.out.size); (case aL => have := HLk.out; have := HNb.out; have := HNy.out; (try simp only [List.length_nil]); omega); intro v3 w3 ho hb hg hat; rw [← HYY.out] at ho; obtain ⟨Fv, fc, rfl⟩ := Kd.R_slice ho; have hs7 := HS4.out.below hb; have HO3 := Aside0.mk (dl.mv (i := 0) (x := .slice Fv yy.length fc) (show w.heap.size ≤ w.heap.size + 1 by omega) (fun k_ hk => hk) (Kd.R_mono (Kd.R_bound ho) (fun k_ hk => show w.heap.size + 1 < k_ from by have := hk.2.1; have := blk_lt HS4.out.c; omega))); have HS7 := Aside0.mk (hs7.set 0 (.slice Fv yy.length fc) rfl); have qw0 := (blk_cell hs7.d 0).trans rfl; have fqw0 := blk_frozen hs7.d 0; have qw1 := (blk_cell hs7.d 1).trans rfl; have fqw1 := blk_frozen hs7.d 1; have qw2 := (blk_cell hs7.d 2).trans rfl; have fqw2 := blk_frozen hs7.d 2; have qw3 := (blk_cell hs7.d 3).trans rfl; have fqw3 := blk_frozen hs7.d 3; have qw4 := (blk_cell hs7.d 4).trans rfl; have fqw4 := blk_frozen hs7.d 4; have qw5 := (blk_cell hs7.d 5).trans rfl; have fqw5 := blk_frozen hs7.d 5; have qw6 := (blk_cell hs7.d 6).trans rfl; have fqw6 := blk_frozen hs7.d 6; clear ho hb hg hat hs7))
  clear qd0 fqd0 qd1 fqd1 qd2 fqd2 qd3 fqd3 qd4 fqd4 qd5 fqd5 qd6 fqd6
  clear qz0 fqz0 qz1 fqz1 qz2 fqz2 qz3 fqz3 qz4 fqz4 qz5 fqz5 qz6 fqz6
  clear qc0 fqc0 qc1 fqc1 qc2 fqc2 qc3 fqc3 qc4 fqc4 qc5 fqc5 qc6 fqc6
  clear qw0 fqw0 qw1 fqw1 qw2 fqw2 qw3 fqw3 qw4 fqw4 qw5 fqw5 qw6 fqw6
  generalize w3.setCell ⟨w.heap.size, 0, none⟩ (.slice Fv yy.length fc) = We at HS7 HO3 ⊢
  clear HS4 HO HO2 HS5 HS6 HBa HBc ca0 hzz
  have qe0 := (blk_cell HS7.out.d 0).trans rfl; have fqe0 := blk_frozen HS7.out.d 0; have qe1 := (blk_cell HS7.out.d 1).trans rfl; have fqe1 := blk_frozen HS7.out.d 1; have qe2 := (blk_cell HS7.out.d 2).trans rfl; have fqe2 := blk_frozen HS7.out.d 2; have qe3 := (blk_cell HS7.out.d 3).trans rfl; have fqe3 := blk_frozen HS7.out.d 3; have qe4 := (blk_cell HS7.out.d 4).trans rfl; have fqe4 := blk_frozen HS7.out.d 4; have qe5 := (blk_cell HS7.out.d 5).trans rfl; have fqe5 := blk_frozen HS7.out.d 5; have qe6 := (blk_cell HS7.out.d 6).trans rfl; have fqe6 := blk_frozen HS7.out.d 6
  have qf0 := (blk_cell HS7.out.z 0).trans rfl; have fqf0 := blk_frozen HS7.out.z 0; have qf1 := (blk_cell HS7.out.z 1).trans rfl; have fqf1 := blk_frozen HS7.out.z 1; have qf2 := (blk_cell HS7.out.z 2).trans rfl; have fqf2 := blk_frozen HS7.out.z 2; have qf3 := (blk_cell HS7.out.z 3).trans rfl; have fqf3 := blk_frozen HS7.out.z 3; have qf4 := (blk_cell HS7.out.z 4).trans rfl; have fqf4 := blk_frozen HS7.out.z 4; have qf5 := (blk_cell HS7.out.z 5).trans rfl; have fqf5 := blk_frozen HS7.out.z 5; have qf6 := (blk_cell HS7.out.z 6).trans rfl; have fqf6 := blk_frozen HS7.out.z 6
  have hzx := blk_lt HS7.out.z
  go_wp2_with (go_at_call 102; refine Calls.mono (wristbandref17_Lose.calls _ _ yy s0 _ _ l1 s1 0 keep false keep x1 x2 x3 x4 x5 x6 x7 _ (Kd.R_reads' HO3.out).2.2 (Kd.R_reads' HO3.out).2.1 (Kd.C_below (Kd.V_reads' HS1.out).2.2 HS7.out.b) (Kd.V_reads' HS1.out).2.1 HLo.out) ?_; rintro e w6 ⟨v0, v2, rfl, h0, h2, hb⟩; obtain ⟨E0, m0, rfl⟩ := Kd.R_slice h0; obtain ⟨E2, m2, rfl⟩ := Kd.R_slice h2; have H0 := Aside0.mk (Kd.R_mono h0 (fun _ _ => trivial)); have H2 := Aside0.mk (Kd.R_mono h2 (fun _ _ => trivial)); have hs6 := HS7.out.below hb; have HS8 := Aside0.mk hs6; have qy0 := (blk_cell hs6.z 0).trans rfl; have fqy0 := blk_frozen hs6.z 0; have qy1 := (blk_cell hs6.z 1).trans rfl; have fqy1 := blk_frozen hs6.z 1; have qy2 := (blk_cell hs6.z 2).trans rfl; have fqy2 := blk_frozen hs6.z 2; have qy3 := (blk_cell hs6.z 3).trans rfl; have fqy3 := blk_frozen hs6.z 3; have qy4 := (blk_cell hs6.z 4).trans rfl; have fqy4 := blk_frozen hs6.z 4; have qy5 := (blk_cell hs6.z 5).trans rfl; have fqy5 := blk_frozen hs6.z 5; have qy6 := (blk_cell hs6.z 6).trans rfl; have fqy6 := blk_frozen hs6.z 6; have hzy := blk_lt hs6.c; clear h0 h2 hb hs6)
  have HGZ := Aside0.mk (blk_lt HS7.out.z)
  have HWZ := Aside0.mk HS7.out.b.size
  have hle : w.heap.size ≤ w.heap.size + 1 := by omega
  have hfin := fun a b c d e f x => below_set (j := 6) (v := x) (below_set (j := 5) (v := f) (below_set (j := 4) (v := e) (below_set (j := 3) (v := d) (below_set (j := 2) (v := c) (below_set (j := 1) (v := b) (below_set (j := 0) (v := a) HS8.out.b hle) hle) hle) hle) hle) hle) hle
  refine bodyPost_ret (results_ct rfl _ _ (w.heap.size + 1) 74 _ (0, 0) _ rfl (sp.set7 HS8.out.z) Try.underlying74 rfl (by kernel_rfl)) rfl ?_
  exact ⟨_, _, rfl, sp.Row.fin (W := We) _ _ _ _ _ _ _ HS0.out HS1.out (.inr (.inr H0.out)) HGZ.out HWZ.out (hfin _ _ _ _ _ _ _), sp.Row.fin (W := We) _ _ _ _ _ _ _ HS0.out HS1.out (.inr (.inr H2.out)) HGZ.out HWZ.out (hfin _ _ _ _ _ _ _), hfin _ _ _ _ _ _ _⟩
set_option maxHeartbeats 3200000 in
set_option maxRecDepth 100000 in
theorem rf.goes61_0 {A0 : Option Addr} {c0 : Nat} {l0 : List Int} {s0 : Int} {A1 : Option Addr} {c1 : Nat} {l1 : List Int} {s1 fuse keep f9 : Int} {down : Bool} {w : World} {P0 P2 : Nat → Prop} (Bb : Option Addr) (cb : Nat) (b : List Int) (hs0 : Kd.V (Kd.int .u8) 5 w w.heap.size P0 (.slice A0 l0.length c0) l0) (hs1 : Kd.V (Kd.int .u8) 5 w w.heap.size P2 (.slice A1 l1.length c1) l1) (HG : ∀ W, Below w.heap.size w W → Calls Try.prog 101 #[.agg #[.slice A0 l0.length c0, .int .i64 s0, .slice A1 l1.length c1, .int .i64 s1, .int .i64 0, .int .i64 keep, .bool false], .int .i64 0] W fun e w' => e = .returned (.tuple #[.agg #[.slice A0 l0.length c0, .int .i64 s0, .slice A1 l1.length c1, .int .i64 s1, .int .i64 0, .int .i64 keep, .bool false], .bool true, .int .i64 0]) ∧ Below W.heap.size W w') (hrb : Kd.C (Kd.int .u8) w Bb b.length b) (hcb : b.length ≤ cb) (hnb : b.length < 140737488355328) (hl : l0.length ≤ 1048576) (hf : ¬ 1048576 < l0.length + b.length) (h0k : 0 ≤ keep) (hkb : ¬ keep < (b.length : Int)) (yy : List Int) (hyy : yy = (l0 ++ b)) (r : List Int × Int × List Int × Int × Int × Int × Bool × Int) (h : ((wristbandref17_Lose.f yy s0 l1 s1 0 keep false keep).bind fun r => some (r.1, r.2.1, r.2.2.1, r.2.2.2.1, r.2.2.2.2.1, r.2.2.2.2.2.1, r.2.2.2.2.2.2, (14 : Int))) = some r) :
    Calls Try.prog 61 #[.agg #[.slice A0 l0.length c0, .int .i64 s0, .slice A1 l1.length c1, .int .i64 s1, .int .i64 0, .int .i64 keep, .bool false], .int .i64 0, .slice Bb b.length cb] w (fun e w' => ∃ v0_ v2_ : Value, e = .returned (.tuple #[.agg #[v0_, .int .i64 r.2.1, v2_, .int .i64 r.2.2.2.1, .int .i64 r.2.2.2.2.1, .int .i64 r.2.2.2.2.2.1, .bool r.2.2.2.2.2.2.1], .int .i64 r.2.2.2.2.2.2.2]) ∧ Kd.V (Kd.int .u8) 5 w' w.heap.size (fun k_ => ((P0 k_ ∨ P2 k_) ∨ w.heap.size ≤ k_)) v0_ r.1 ∧ Kd.V (Kd.int .u8) 5 w' w.heap.size (fun k_ => ((P0 k_ ∨ P2 k_) ∨ w.heap.size ≤ k_)) v2_ r.2.2.1 ∧ Below w.heap.size w w') := by
  have b8 : decide (1048576 < l0.length + b.length) = false := decide_eq_false hf
  have b9 : decide ((1048576 : Int) < (l0.length : Int) + (b.length : Int)) = false := decide_eq_false (by omega)
  have hw9 : wrap64 ((l0.length : Int) + (b.length : Int)) = (l0.length : Int) + (b.length : Int) := by unfold wrap64; omega
  have HLk := Aside0.mk hl
  have HNb := Aside0.mk (show l0.length + b.length ≤ 1048576 by omega)
  have HYY := Aside0.mk hyy
  clear hyy
  have b7 : decide (keep < (b.length : Int)) = false := decide_eq_false hkb
  obtain ⟨⟨x1, x2, x3, x4, x5, x6, x7⟩, hL, h⟩ := Option.bind_eq_some_iff.1 h
  obtain rfl := Option.some.inj h
  clear h
  have HLo := Aside0.mk hL
  clear hL
  have HRb := Aside0.mk hrb
  have HNy := Aside0.mk (Nat.le_refl b.length)
  clear hrb hcb hf hl hnb hkb h0k
  have HS := Aside0.mk (rf.St.start w (.slice A0 l0.length c0) (.int .i64 s0) (.slice A1 l1.length c1) (.int .i64 s1) (.int .i64 0) (.int .i64 keep) (.bool false))
  have HG_ := Aside0.mk HG
  have HS0 := Aside0.mk hs0
  have HS1 := Aside0.mk hs1
  clear HG hs0 hs1
  go_enter Try.func61, Try.ntmps61
  go_upto_region 2 with fail
  generalize ((w.alloc (.cells #[.slice A0 l0.length c0, .int .i64 s0, .slice A1 l1.length c1, .int .i64 s1, .int .i64 0, .int .i64 keep, .bool false] 74)).alloc (.cells #[.slice none 0 0, .int .i64 0, .slice none 0 0, .int .i64 0, .int .i64 0, .int .i64 0, .bool false] 74)).alloc (.cells #[.slice A0 l0.length c0, .int .i64 s0, .slice A1 l1.length c1, .int .i64 s1, .int .i64 0, .int .i64 keep, .bool false] 74) = W3 at HS ⊢
  have qa0 := (blk_cell HS.out.d 0).trans rfl; have fqa0 := blk_frozen HS.out.d 0; have qa1 := (blk_cell HS.out.d 1).trans rfl; have fqa1 := blk_frozen HS.out.d 1; have qa2 := (blk_cell HS.out.d 2).trans rfl; have fqa2 := blk_frozen HS.out.d 2; have qa3 := (blk_cell HS.out.d 3).trans rfl; have fqa3 := blk_frozen HS.out.d 3; have qa4 := (blk_cell HS.out.d 4).trans rfl; have fqa4 := blk_frozen HS.out.d 4; have qa5 := (blk_cell HS.out.d 5).trans rfl; have fqa5 := blk_frozen HS.out.d 5; have qa6 := (blk_cell HS.out.d 6).trans rfl; have fqa6 := blk_frozen HS.out.d 6
  go_upto_region 3 with (go_at_call 101; refine Calls.mono (HG_.out _ HS.out.b) ?_; rintro e w4 ⟨rfl, hb⟩; have hs4 := HS.out.below hb; have HS4 := Aside0.mk (hs4.set7 (.slice A0 l0.length c0) (.int .i64 s0) (.slice A1 l1.length c1) (.int .i64 s1) (.int .i64 0) (.int .i64 keep) (.bool false)); have qb0 := (blk_cell hs4.d 0).trans rfl; have fqb0 := blk_frozen hs4.d 0; have qb1 := (blk_cell hs4.d 1).trans rfl; have fqb1 := blk_frozen hs4.d 1; have qb2 := (blk_cell hs4.d 2).trans rfl; have fqb2 := blk_frozen hs4.d 2; have qb3 := (blk_cell hs4.d 3).trans rfl; have fqb3 := blk_frozen hs4.d 3; have qb4 := (blk_cell hs4.d 4).trans rfl; have fqb4 := blk_frozen hs4.d 4; have qb5 := (blk_cell hs4.d 5).trans rfl; have fqb5 := blk_frozen hs4.d 5; have qb6 := (blk_cell hs4.d 6).trans rfl; have fqb6 := blk_frozen hs4.d 6; clear hb hs4)
  clear qa0 fqa0 qa1 fqa1 qa2 fqa2 qa3 fqa3 qa4 fqa4 qa5 fqa5 qa6 fqa6
  clear qb0 fqb0 qb1 fqb1 qb2 fqb2 qb3 fqb3 qb4 fqb4 qb5 fqb5 qb6 fqb6
  generalize ((((((w4.setCell ⟨w.heap.size, 0, none⟩ (.slice A0 l0.length c0)).setCell ⟨w.heap.size, 1, none⟩ (.int .i64 s0)).setCell ⟨w.heap.size, 2, none⟩ (.slice A1 l1.length c1)).setCell ⟨w.heap.size, 3, none⟩ (.int .i64 s1)).setCell ⟨w.heap.size, 4, none⟩ (.int .i64 0)).setCell ⟨w.heap.size, 5, none⟩ (.int .i64 keep)).setCell ⟨w.heap.size, 6, none⟩ (.bool false) = Wd at HS4 ⊢
  clear HS HG_
  have qd0 := (blk_cell HS4.out.d 0).trans rfl; have fqd0 := blk_frozen HS4.out.d 0; have qd1 := (blk_cell HS4.out.d 1).trans rfl; have fqd1 := blk_frozen HS4.out.d 1; have qd2 := (blk_cell HS4.out.d 2).trans rfl; have fqd2 := blk_frozen HS4.out.d 2; have qd3 := (blk_cell HS4.out.d 3).trans rfl; have fqd3 := blk_frozen HS4.out.d 3; have qd4 := (blk_cell HS4.out.d 4).trans rfl; have fqd4 := blk_frozen HS4.out.d 4; have qd5 := (blk_cell HS4.out.d 5).trans rfl; have fqd5 := blk_frozen HS4.out.d 5; have qd6 := (blk_cell HS4.out.d 6).trans rfl; have fqd6 := blk_frozen HS4.out.d 6
  have qz0 := (blk_cell HS4.out.z 0).trans rfl; have fqz0 := blk_frozen HS4.out.z 0; have qz1 := (blk_cell HS4.out.z 1).trans rfl; have fqz1 := blk_frozen HS4.out.z 1; have qz2 := (blk_cell HS4.out.z 2).trans rfl; have fqz2 := blk_frozen HS4.out.z 2; have qz3 := (blk_cell HS4.out.z 3).trans rfl; have fqz3 := blk_frozen HS4.out.z 3; have qz4 := (blk_cell HS4.out.z 4).trans rfl; have fqz4 := blk_frozen HS4.out.z 4; have qz5 := (blk_cell HS4.out.z 5).trans rfl; have fqz5 := blk_frozen HS4.out.z 5; have qz6 := (blk_cell HS4.out.z 6).trans rfl; have fqz6 := blk_frozen HS4.out.z 6
  have qc0 := (blk_cell HS4.out.c 0).trans rfl; have fqc0 := blk_frozen HS4.out.c 0; have qc1 := (blk_cell HS4.out.c 1).trans rfl; have fqc1 := blk_frozen HS4.out.c 1; have qc2 := (blk_cell HS4.out.c 2).trans rfl; have fqc2 := blk_frozen HS4.out.c 2; have qc3 := (blk_cell HS4.out.c 3).trans rfl; have fqc3 := blk_frozen HS4.out.c 3; have qc4 := (blk_cell HS4.out.c 4).trans rfl; have fqc4 := blk_frozen HS4.out.c 4; have qc5 := (blk_cell HS4.out.c 5).trans rfl; have fqc5 := blk_frozen HS4.out.c 5; have qc6 := (blk_cell HS4.out.c 6).trans rfl; have fqc6 := blk_frozen HS4.out.c 6
  have hzz := blk_lt HS4.out.c
  have HGZ := Aside0.mk (blk_lt HS4.out.z)
  have HWZ := Aside0.mk HS4.out.b.size
  go_upto_region 10 with (first
    | ((with_reducible refine gate_dst (N := 47) rfl ?_); refine Kd.R_lit (Kd.int .u8) _ 5 ?hg (N := 47) ?hd (xs := ([] : List Int)) (inner := []) (ok := fun _ => True) (okp := fun _ => True) ?hr ?hp (fun _ hk => hk) trivial (Below.refl _ _) (Nat.le_refl _) (by simp) ?_; (case hd => rfl); (case hg => rfl); (case hr => first | (go_simp; done) | (go_simp; rfl)); (case hp => exact (Reps.none _ _)); intro v1 w1 ho hb _ _; have HO := Aside0.mk ho; have HBa := Aside0.mk hb; have hs5 := HS4.out.below hb; have HS5 := Aside0.mk hs5; have ca0 := (blk_cell hs5.d 0).trans rfl; clear ho hb hs5)
    | ((with_reducible refine gate_builtin (b := .append) (xs := #[.tmp 47, .tmp 52]) rfl ?_); at_builtin; refine Kd.R_append_rows (Kd.int .u8) (w0 := Wd) Wd.heap.size rfl (.tmp 47) (.tmp 52) 22 5 (.int .u8 0) 1 rfl Try.underlying22 info5 rfl (by decide) (by omega) v1 [] l0 _ _ _ (fun _ => True) (fun _ => False) rfl rfl ?aO ?aR (fun _ _ h => h) (fun _ h => h.elim) ?aF ?aB ?aS ?aL ?_; (case aR => exact Kd.C_below (Kd.V_reads' HS0.out).2.2 HS5.out.b); (case aB => exact HBa.out); (case aF => exact (fun _ _ => trivial)); (case aO => exact HO.out); (case aS => exact HBa.out.size); (case aL => have := HLk.out; have := HNb.out; have := HNy.out; (try simp only [List.length_nil]); omega); intro v2 w2 ho hb hg hat; rw [List.nil_append] at ho; have HO2 := Aside0.mk ho; have HBc := Aside0.mk hb; have HS6 := Aside0.mk (HS4.out.below hb); clear ho hb hg hat)
    | ((with_reducible refine gate_builtin (b := .append) (xs := #[.tmp 53, .tmp 54]) rfl ?_); at_builtin; refine Kd.R_append_rows (Kd.int .u8) (w0 := Wd) Wd.heap.size rfl (.tmp 53) (.tmp 54) 22 5 (.int .u8 0) 1 rfl Try.underlying22 info5 rfl (by decide) (by omega) v2 l0 b _ _ _ (fun _ => True) (fun _ => False) rfl rfl ?aO ?aR (fun _ _ h => h) (fun _ h => h.elim) ?aF ?aB ?aS ?aL ?_; (case aR => exact Kd.C_below HRb.out HS6.out.b); (case aB => exact HBc.out); (case aF => exact (fun _ _ => trivial)); (case aO => exact HO2.out); (case aS => exact HBc.out.size); (case aL => have := HLk.out; have := HNb.out; have := HNy.out; (try simp only [List.length_nil]); omega); intro v3 w3 ho hb hg hat; rw [← HYY.out] at ho; obtain ⟨Fv, fc, rfl⟩ := Kd.R_slice ho; have hs7 := HS4.out.below hb; have HO3 := Aside0.mk (dl.mv (i := 0) (x := .slice Fv yy.length fc) (show w.heap.size ≤ w.heap.size + 1 by omega) (fun k_ hk => hk) (Kd.R_mono (Kd.R_bound ho) (fun k_ hk => show w.heap.size + 1 < k_ from by have := hk.2.1; have := blk_lt HS4.out.c; omega))); have HS7 := Aside0.mk (hs7.set 0 (.slice Fv yy.length fc) rfl); have qw0 := (blk_cell hs7.d 0).trans rfl; have fqw0 := blk_frozen hs7.d 0; have qw1 := (blk_cell hs7.d 1).trans rfl; have fqw1 := blk_frozen hs7.d 1; have qw2 := (blk_cell hs7.d 2).trans rfl; have fqw2 := blk_frozen hs7.d 2; have qw3 := (blk_cell hs7.d 3).trans rfl; have fqw3 := blk_frozen hs7.d 3; have qw4 := (blk_cell hs7.d 4).trans rfl; have fqw4 := blk_frozen hs7.d 4; have qw5 := (blk_cell hs7.d 5).trans rfl; have fqw5 := blk_frozen hs7.d 5; have qw6 := (blk_cell hs7.d 6).trans rfl; have fqw6 := blk_frozen hs7.d 6; clear ho hb hg hat hs7))
  clear qd0 fqd0 qd1 fqd1 qd2 fqd2 qd3 fqd3 qd4 fqd4 qd5 fqd5 qd6 fqd6
  clear qz0 fqz0 qz1 fqz1 qz2 fqz2 qz3 fqz3 qz4 fqz4 qz5 fqz5 qz6 fqz6
  clear qc0 fqc0 qc1 fqc1 qc2 fqc2 qc3 fqc3 qc4 fqc4 qc5 fqc5 qc6 fqc6
  clear qw0 fqw0 qw1 fqw1 qw2 fqw2 qw3 fqw3 qw4 fqw4 qw5 fqw5 qw6 fqw6
  generalize w3.setCell ⟨w.heap.size, 0, none⟩ (.slice Fv yy.length fc) = We at HS7 HO3 ⊢
  clear HS4 HO HO2 HS5 HS6 HBa HBc ca0 hzz
  have qe0 := (blk_cell HS7.out.d 0).trans rfl; have fqe0 := blk_frozen HS7.out.d 0; have qe1 := (blk_cell HS7.out.d 1).trans rfl; have fqe1 := blk_frozen HS7.out.d 1; have qe2 := (blk_cell HS7.out.d 2).trans rfl; have fqe2 := blk_frozen HS7.out.d 2; have qe3 := (blk_cell HS7.out.d 3).trans rfl; have fqe3 := blk_frozen HS7.out.d 3; have qe4 := (blk_cell HS7.out.d 4).trans rfl; have fqe4 := blk_frozen HS7.out.d 4; have qe5 := (blk_cell HS7.out.d 5).trans rfl; have fqe5 := blk_frozen HS7.out.d 5; have qe6 := (blk_cell HS7.out.d 6).trans rfl; have fqe6 := blk_frozen HS7.out.d 6
  have qf0 := (blk_cell HS7.out.z 0).trans rfl; have fqf0 := blk_frozen HS7.out.z 0; have qf1 := (blk_cell HS7.out.z 1).trans rfl; have fqf1 := blk_frozen HS7.out.z 1; have qf2 := (blk_cell HS7.out.z 2).trans rfl; have fqf2 := blk_frozen HS7.out.z 2; have qf3 := (blk_cell HS7.out.z 3).trans rfl; have fqf3 := blk_frozen HS7.out.z 3; have qf4 := (blk_cell HS7.out.z 4).trans rfl; have fqf4 := blk_frozen HS7.out.z 4; have qf5 := (blk_cell HS7.out.z 5).trans rfl; have fqf5 := blk_frozen HS7.out.z 5; have qf6 := (blk_cell HS7.out.z 6).trans rfl; have fqf6 := blk_frozen HS7.out.z 6
  have hzx := blk_lt HS7.out.z
  go_wp2_with (go_at_call 102; refine Calls.mono (wristbandref17_Lose.calls _ _ yy s0 _ _ l1 s1 0 keep false keep x1 x2 x3 x4 x5 x6 x7 _ (Kd.R_reads' HO3.out).2.2 (Kd.R_reads' HO3.out).2.1 (Kd.C_below (Kd.V_reads' HS1.out).2.2 HS7.out.b) (Kd.V_reads' HS1.out).2.1 HLo.out) ?_; rintro e w6 ⟨v0, v2, rfl, h0, h2, hb⟩; obtain ⟨E0, m0, rfl⟩ := Kd.R_slice h0; obtain ⟨E2, m2, rfl⟩ := Kd.R_slice h2; have H0 := Aside0.mk (Kd.R_mono h0 (fun _ _ => trivial)); have H2 := Aside0.mk (Kd.R_mono h2 (fun _ _ => trivial)); have hs6 := HS7.out.below hb; have HS8 := Aside0.mk hs6; have qy0 := (blk_cell hs6.z 0).trans rfl; have fqy0 := blk_frozen hs6.z 0; have qy1 := (blk_cell hs6.z 1).trans rfl; have fqy1 := blk_frozen hs6.z 1; have qy2 := (blk_cell hs6.z 2).trans rfl; have fqy2 := blk_frozen hs6.z 2; have qy3 := (blk_cell hs6.z 3).trans rfl; have fqy3 := blk_frozen hs6.z 3; have qy4 := (blk_cell hs6.z 4).trans rfl; have fqy4 := blk_frozen hs6.z 4; have qy5 := (blk_cell hs6.z 5).trans rfl; have fqy5 := blk_frozen hs6.z 5; have qy6 := (blk_cell hs6.z 6).trans rfl; have fqy6 := blk_frozen hs6.z 6; have hzy := blk_lt hs6.c; clear h0 h2 hb hs6)
  have HGZ := Aside0.mk (blk_lt HS7.out.z)
  have HWZ := Aside0.mk HS7.out.b.size
  have hle : w.heap.size ≤ w.heap.size + 1 := by omega
  have hfin := fun a b c d e f x => below_set (j := 6) (v := x) (below_set (j := 5) (v := f) (below_set (j := 4) (v := e) (below_set (j := 3) (v := d) (below_set (j := 2) (v := c) (below_set (j := 1) (v := b) (below_set (j := 0) (v := a) HS8.out.b hle) hle) hle) hle) hle) hle) hle
  refine bodyPost_ret (results_ct rfl _ _ (w.heap.size + 1) 74 _ (0, 0) _ rfl (sp.set7 HS8.out.z) Try.underlying74 rfl (by kernel_rfl)) rfl ?_
  exact ⟨_, _, rfl, sp.Row.fin (W := We) _ _ _ _ _ _ _ HS0.out HS1.out (.inr (.inr H0.out)) HGZ.out HWZ.out (hfin _ _ _ _ _ _ _), sp.Row.fin (W := We) _ _ _ _ _ _ _ HS0.out HS1.out (.inr (.inr H2.out)) HGZ.out HWZ.out (hfin _ _ _ _ _ _ _), hfin _ _ _ _ _ _ _⟩
set_option maxHeartbeats 3200000 in
set_option maxRecDepth 100000 in
theorem rf.full61_1 {A0 : Option Addr} {c0 : Nat} {l0 : List Int} {s0 : Int} {A1 : Option Addr} {c1 : Nat} {l1 : List Int} {s1 fuse keep f9 : Int} {down : Bool} {w : World} {P0 P2 : Nat → Prop} (Bb : Option Addr) (cb : Nat) (b : List Int) (g9 : Bool) (hs0 : Kd.V (Kd.int .u8) 5 w w.heap.size P0 (.slice A0 l0.length c0) l0) (hs1 : Kd.V (Kd.int .u8) 5 w w.heap.size P2 (.slice A1 l1.length c1) l1) (HG : ∀ W, Below w.heap.size w W → Calls Try.prog 101 #[.agg #[.slice A0 l0.length c0, .int .i64 s0, .slice A1 l1.length c1, .int .i64 s1, .int .i64 fuse, .int .i64 keep, .bool down], .int .i64 1] W fun e w' => e = .returned (.tuple #[.agg #[.slice A0 l0.length c0, .int .i64 s0, .slice A1 l1.length c1, .int .i64 s1, .int .i64 f9, .int .i64 keep, .bool down], .bool g9, .int .i64 0]) ∧ Below W.heap.size W w') (hl : l1.length ≤ 1048576) (hnb : b.length < 140737488355328) (hf : 1048576 < l1.length + b.length) (r : List Int × Int × List Int × Int × Int × Int × Bool × Int) (h : r = (l0, s0, l1, s1, fuse, keep, down, 12)) :
    Calls Try.prog 61 #[.agg #[.slice A0 l0.length c0, .int .i64 s0, .slice A1 l1.length c1, .int .i64 s1, .int .i64 fuse, .int .i64 keep, .bool down], .int .i64 1, .slice Bb b.length cb] w (fun e w' => ∃ v0_ v2_ : Value, e = .returned (.tuple #[.agg #[v0_, .int .i64 r.2.1, v2_, .int .i64 r.2.2.2.1, .int .i64 r.2.2.2.2.1, .int .i64 r.2.2.2.2.2.1, .bool r.2.2.2.2.2.2.1], .int .i64 r.2.2.2.2.2.2.2]) ∧ Kd.V (Kd.int .u8) 5 w' w.heap.size (fun k_ => ((P0 k_ ∨ P2 k_) ∨ w.heap.size ≤ k_)) v0_ r.1 ∧ Kd.V (Kd.int .u8) 5 w' w.heap.size (fun k_ => ((P0 k_ ∨ P2 k_) ∨ w.heap.size ≤ k_)) v2_ r.2.2.1 ∧ Below w.heap.size w w') := by
  subst h
  have b8 : decide (1048576 < l1.length + b.length) = true := decide_eq_true hf
  have b9 : decide ((1048576 : Int) < (l1.length : Int) + (b.length : Int)) = true := decide_eq_true (by omega)
  have hw9 : wrap64 ((l1.length : Int) + (b.length : Int)) = (l1.length : Int) + (b.length : Int) := by unfold wrap64; omega
  clear hf
  have HS := Aside0.mk (rf.St.start w (.slice A0 l0.length c0) (.int .i64 s0) (.slice A1 l1.length c1) (.int .i64 s1) (.int .i64 fuse) (.int .i64 keep) (.bool down))
  have HG_ := Aside0.mk HG
  have HS0 := Aside0.mk hs0
  have HS1 := Aside0.mk hs1
  clear HG hs0 hs1
  go_enter Try.func61, Try.ntmps61
  go_upto_region 2 with fail
  generalize ((w.alloc (.cells #[.slice A0 l0.length c0, .int .i64 s0, .slice A1 l1.length c1, .int .i64 s1, .int .i64 fuse, .int .i64 keep, .bool down] 74)).alloc (.cells #[.slice none 0 0, .int .i64 0, .slice none 0 0, .int .i64 0, .int .i64 0, .int .i64 0, .bool false] 74)).alloc (.cells #[.slice A0 l0.length c0, .int .i64 s0, .slice A1 l1.length c1, .int .i64 s1, .int .i64 fuse, .int .i64 keep, .bool down] 74) = W3 at HS ⊢
  have qa0 := (blk_cell HS.out.d 0).trans rfl; have fqa0 := blk_frozen HS.out.d 0; have qa1 := (blk_cell HS.out.d 1).trans rfl; have fqa1 := blk_frozen HS.out.d 1; have qa2 := (blk_cell HS.out.d 2).trans rfl; have fqa2 := blk_frozen HS.out.d 2; have qa3 := (blk_cell HS.out.d 3).trans rfl; have fqa3 := blk_frozen HS.out.d 3; have qa4 := (blk_cell HS.out.d 4).trans rfl; have fqa4 := blk_frozen HS.out.d 4; have qa5 := (blk_cell HS.out.d 5).trans rfl; have fqa5 := blk_frozen HS.out.d 5; have qa6 := (blk_cell HS.out.d 6).trans rfl; have fqa6 := blk_frozen HS.out.d 6
  go_upto_region 3 with (go_at_call 101; refine Calls.mono (HG_.out _ HS.out.b) ?_; rintro e w4 ⟨rfl, hb⟩; have hs4 := HS.out.below hb; have HS4 := Aside0.mk (hs4.set7 (.slice A0 l0.length c0) (.int .i64 s0) (.slice A1 l1.length c1) (.int .i64 s1) (.int .i64 f9) (.int .i64 keep) (.bool down)); have qb0 := (blk_cell hs4.d 0).trans rfl; have fqb0 := blk_frozen hs4.d 0; have qb1 := (blk_cell hs4.d 1).trans rfl; have fqb1 := blk_frozen hs4.d 1; have qb2 := (blk_cell hs4.d 2).trans rfl; have fqb2 := blk_frozen hs4.d 2; have qb3 := (blk_cell hs4.d 3).trans rfl; have fqb3 := blk_frozen hs4.d 3; have qb4 := (blk_cell hs4.d 4).trans rfl; have fqb4 := blk_frozen hs4.d 4; have qb5 := (blk_cell hs4.d 5).trans rfl; have fqb5 := blk_frozen hs4.d 5; have qb6 := (blk_cell hs4.d 6).trans rfl; have fqb6 := blk_frozen hs4.d 6; clear hb hs4)
  clear qa0 fqa0 qa1 fqa1 qa2 fqa2 qa3 fqa3 qa4 fqa4 qa5 fqa5 qa6 fqa6
  clear qb0 fqb0 qb1 fqb1 qb2 fqb2 qb3 fqb3 qb4 fqb4 qb5 fqb5 qb6 fqb6
  generalize ((((((w4.setCell ⟨w.heap.size, 0, none⟩ (.slice A0 l0.length c0)).setCell ⟨w.heap.size, 1, none⟩ (.int .i64 s0)).setCell ⟨w.heap.size, 2, none⟩ (.slice A1 l1.length c1)).setCell ⟨w.heap.size, 3, none⟩ (.int .i64 s1)).setCell ⟨w.heap.size, 4, none⟩ (.int .i64 f9)).setCell ⟨w.heap.size, 5, none⟩ (.int .i64 keep)).setCell ⟨w.heap.size, 6, none⟩ (.bool down) = Wd at HS4 ⊢
  clear HS HG_
  have qd0 := (blk_cell HS4.out.d 0).trans rfl; have fqd0 := blk_frozen HS4.out.d 0; have qd1 := (blk_cell HS4.out.d 1).trans rfl; have fqd1 := blk_frozen HS4.out.d 1; have qd2 := (blk_cell HS4.out.d 2).trans rfl; have fqd2 := blk_frozen HS4.out.d 2; have qd3 := (blk_cell HS4.out.d 3).trans rfl; have fqd3 := blk_frozen HS4.out.d 3; have qd4 := (blk_cell HS4.out.d 4).trans rfl; have fqd4 := blk_frozen HS4.out.d 4; have qd5 := (blk_cell HS4.out.d 5).trans rfl; have fqd5 := blk_frozen HS4.out.d 5; have qd6 := (blk_cell HS4.out.d 6).trans rfl; have fqd6 := blk_frozen HS4.out.d 6
  have qz0 := (blk_cell HS4.out.z 0).trans rfl; have fqz0 := blk_frozen HS4.out.z 0; have qz1 := (blk_cell HS4.out.z 1).trans rfl; have fqz1 := blk_frozen HS4.out.z 1; have qz2 := (blk_cell HS4.out.z 2).trans rfl; have fqz2 := blk_frozen HS4.out.z 2; have qz3 := (blk_cell HS4.out.z 3).trans rfl; have fqz3 := blk_frozen HS4.out.z 3; have qz4 := (blk_cell HS4.out.z 4).trans rfl; have fqz4 := blk_frozen HS4.out.z 4; have qz5 := (blk_cell HS4.out.z 5).trans rfl; have fqz5 := blk_frozen HS4.out.z 5; have qz6 := (blk_cell HS4.out.z 6).trans rfl; have fqz6 := blk_frozen HS4.out.z 6
  have qc0 := (blk_cell HS4.out.c 0).trans rfl; have fqc0 := blk_frozen HS4.out.c 0; have qc1 := (blk_cell HS4.out.c 1).trans rfl; have fqc1 := blk_frozen HS4.out.c 1; have qc2 := (blk_cell HS4.out.c 2).trans rfl; have fqc2 := blk_frozen HS4.out.c 2; have qc3 := (blk_cell HS4.out.c 3).trans rfl; have fqc3 := blk_frozen HS4.out.c 3; have qc4 := (blk_cell HS4.out.c 4).trans rfl; have fqc4 := blk_frozen HS4.out.c 4; have qc5 := (blk_cell HS4.out.c 5).trans rfl; have fqc5 := blk_frozen HS4.out.c 5; have qc6 := (blk_cell HS4.out.c 6).trans rfl; have fqc6 := blk_frozen HS4.out.c 6
  have hzz := blk_lt HS4.out.c
  have HGZ := Aside0.mk (blk_lt HS4.out.z)
  have HWZ := Aside0.mk HS4.out.b.size
  go_wp2
  have hle : w.heap.size ≤ w.heap.size + 1 := by omega
  have hfin := fun a b c d e f x => below_set (j := 6) (v := x) (below_set (j := 5) (v := f) (below_set (j := 4) (v := e) (below_set (j := 3) (v := d) (below_set (j := 2) (v := c) (below_set (j := 1) (v := b) (below_set (j := 0) (v := a) HS4.out.b hle) hle) hle) hle) hle) hle) hle
  refine bodyPost_ret (results_ct rfl _ _ (w.heap.size + 1) 74 _ (0, 0) _ rfl (sp.set7 HS4.out.z) Try.underlying74 rfl (by kernel_rfl)) rfl ?_
  exact ⟨_, _, rfl, sp.Row.fin (W := Wd) _ _ _ _ _ _ _ HS0.out HS1.out (.inl ⟨rfl, rfl⟩) HGZ.out HWZ.out (hfin _ _ _ _ _ _ _), sp.Row.fin (W := Wd) _ _ _ _ _ _ _ HS0.out HS1.out (.inr (.inl ⟨rfl, rfl⟩)) HGZ.out HWZ.out (hfin _ _ _ _ _ _ _), hfin _ _ _ _ _ _ _⟩
set_option maxHeartbeats 3200000 in
set_option maxRecDepth 100000 in
theorem rf.done61_1 {A0 : Option Addr} {c0 : Nat} {l0 : List Int} {s0 : Int} {A1 : Option Addr} {c1 : Nat} {l1 : List Int} {s1 fuse keep f9 : Int} {down : Bool} {w : World} {P0 P2 : Nat → Prop} (Bb : Option Addr) (cb : Nat) (b : List Int) (hs0 : Kd.V (Kd.int .u8) 5 w w.heap.size P0 (.slice A0 l0.length c0) l0) (hs1 : Kd.V (Kd.int .u8) 5 w w.heap.size P2 (.slice A1 l1.length c1) l1) (HG : ∀ W, Below w.heap.size w W → Calls Try.prog 101 #[.agg #[.slice A0 l0.length c0, .int .i64 s0, .slice A1 l1.length c1, .int .i64 s1, .int .i64 fuse, .int .i64 keep, .bool down], .int .i64 1] W fun e w' => e = .returned (.tuple #[.agg #[.slice A0 l0.length c0, .int .i64 s0, .slice A1 l1.length c1, .int .i64 s1, .int .i64 f9, .int .i64 keep, .bool down], .bool false, .int .i64 0]) ∧ Below W.heap.size W w') (hrb : Kd.C (Kd.int .u8) w Bb b.length b) (hcb : b.length ≤ cb) (hnb : b.length < 140737488355328) (hl : l1.length ≤ 1048576) (hf : ¬ 1048576 < l1.length + b.length) (yy : List Int) (hyy : yy = (l1 ++ b)) (r : List Int × Int × List Int × Int × Int × Int × Bool × Int) (h : r = (l0, s0, yy, s1, f9, keep, down, 0)) :
    Calls Try.prog 61 #[.agg #[.slice A0 l0.length c0, .int .i64 s0, .slice A1 l1.length c1, .int .i64 s1, .int .i64 fuse, .int .i64 keep, .bool down], .int .i64 1, .slice Bb b.length cb] w (fun e w' => ∃ v0_ v2_ : Value, e = .returned (.tuple #[.agg #[v0_, .int .i64 r.2.1, v2_, .int .i64 r.2.2.2.1, .int .i64 r.2.2.2.2.1, .int .i64 r.2.2.2.2.2.1, .bool r.2.2.2.2.2.2.1], .int .i64 r.2.2.2.2.2.2.2]) ∧ Kd.V (Kd.int .u8) 5 w' w.heap.size (fun k_ => ((P0 k_ ∨ P2 k_) ∨ w.heap.size ≤ k_)) v0_ r.1 ∧ Kd.V (Kd.int .u8) 5 w' w.heap.size (fun k_ => ((P0 k_ ∨ P2 k_) ∨ w.heap.size ≤ k_)) v2_ r.2.2.1 ∧ Below w.heap.size w w') := by
  have b8 : decide (1048576 < l1.length + b.length) = false := decide_eq_false hf
  have b9 : decide ((1048576 : Int) < (l1.length : Int) + (b.length : Int)) = false := decide_eq_false (by omega)
  have hw9 : wrap64 ((l1.length : Int) + (b.length : Int)) = (l1.length : Int) + (b.length : Int) := by unfold wrap64; omega
  have HLk := Aside0.mk hl
  have HNb := Aside0.mk (show l1.length + b.length ≤ 1048576 by omega)
  have HYY := Aside0.mk hyy
  clear hyy
  subst h
  have HRb := Aside0.mk hrb
  have HNy := Aside0.mk (Nat.le_refl b.length)
  clear hrb hcb hf hl hnb
  have HS := Aside0.mk (rf.St.start w (.slice A0 l0.length c0) (.int .i64 s0) (.slice A1 l1.length c1) (.int .i64 s1) (.int .i64 fuse) (.int .i64 keep) (.bool down))
  have HG_ := Aside0.mk HG
  have HS0 := Aside0.mk hs0
  have HS1 := Aside0.mk hs1
  clear HG hs0 hs1
  go_enter Try.func61, Try.ntmps61
  go_upto_region 2 with fail
  generalize ((w.alloc (.cells #[.slice A0 l0.length c0, .int .i64 s0, .slice A1 l1.length c1, .int .i64 s1, .int .i64 fuse, .int .i64 keep, .bool down] 74)).alloc (.cells #[.slice none 0 0, .int .i64 0, .slice none 0 0, .int .i64 0, .int .i64 0, .int .i64 0, .bool false] 74)).alloc (.cells #[.slice A0 l0.length c0, .int .i64 s0, .slice A1 l1.length c1, .int .i64 s1, .int .i64 fuse, .int .i64 keep, .bool down] 74) = W3 at HS ⊢
  have qa0 := (blk_cell HS.out.d 0).trans rfl; have fqa0 := blk_frozen HS.out.d 0; have qa1 := (blk_cell HS.out.d 1).trans rfl; have fqa1 := blk_frozen HS.out.d 1; have qa2 := (blk_cell HS.out.d 2).trans rfl; have fqa2 := blk_frozen HS.out.d 2; have qa3 := (blk_cell HS.out.d 3).trans rfl; have fqa3 := blk_frozen HS.out.d 3; have qa4 := (blk_cell HS.out.d 4).trans rfl; have fqa4 := blk_frozen HS.out.d 4; have qa5 := (blk_cell HS.out.d 5).trans rfl; have fqa5 := blk_frozen HS.out.d 5; have qa6 := (blk_cell HS.out.d 6).trans rfl; have fqa6 := blk_frozen HS.out.d 6
  go_upto_region 3 with (go_at_call 101; refine Calls.mono (HG_.out _ HS.out.b) ?_; rintro e w4 ⟨rfl, hb⟩; have hs4 := HS.out.below hb; have HS4 := Aside0.mk (hs4.set7 (.slice A0 l0.length c0) (.int .i64 s0) (.slice A1 l1.length c1) (.int .i64 s1) (.int .i64 f9) (.int .i64 keep) (.bool down)); have qb0 := (blk_cell hs4.d 0).trans rfl; have fqb0 := blk_frozen hs4.d 0; have qb1 := (blk_cell hs4.d 1).trans rfl; have fqb1 := blk_frozen hs4.d 1; have qb2 := (blk_cell hs4.d 2).trans rfl; have fqb2 := blk_frozen hs4.d 2; have qb3 := (blk_cell hs4.d 3).trans rfl; have fqb3 := blk_frozen hs4.d 3; have qb4 := (blk_cell hs4.d 4).trans rfl; have fqb4 := blk_frozen hs4.d 4; have qb5 := (blk_cell hs4.d 5).trans rfl; have fqb5 := blk_frozen hs4.d 5; have qb6 := (blk_cell hs4.d 6).trans rfl; have fqb6 := blk_frozen hs4.d 6; clear hb hs4)
  clear qa0 fqa0 qa1 fqa1 qa2 fqa2 qa3 fqa3 qa4 fqa4 qa5 fqa5 qa6 fqa6
  clear qb0 fqb0 qb1 fqb1 qb2 fqb2 qb3 fqb3 qb4 fqb4 qb5 fqb5 qb6 fqb6
  generalize ((((((w4.setCell ⟨w.heap.size, 0, none⟩ (.slice A0 l0.length c0)).setCell ⟨w.heap.size, 1, none⟩ (.int .i64 s0)).setCell ⟨w.heap.size, 2, none⟩ (.slice A1 l1.length c1)).setCell ⟨w.heap.size, 3, none⟩ (.int .i64 s1)).setCell ⟨w.heap.size, 4, none⟩ (.int .i64 f9)).setCell ⟨w.heap.size, 5, none⟩ (.int .i64 keep)).setCell ⟨w.heap.size, 6, none⟩ (.bool down) = Wd at HS4 ⊢
  clear HS HG_
  have qd0 := (blk_cell HS4.out.d 0).trans rfl; have fqd0 := blk_frozen HS4.out.d 0; have qd1 := (blk_cell HS4.out.d 1).trans rfl; have fqd1 := blk_frozen HS4.out.d 1; have qd2 := (blk_cell HS4.out.d 2).trans rfl; have fqd2 := blk_frozen HS4.out.d 2; have qd3 := (blk_cell HS4.out.d 3).trans rfl; have fqd3 := blk_frozen HS4.out.d 3; have qd4 := (blk_cell HS4.out.d 4).trans rfl; have fqd4 := blk_frozen HS4.out.d 4; have qd5 := (blk_cell HS4.out.d 5).trans rfl; have fqd5 := blk_frozen HS4.out.d 5; have qd6 := (blk_cell HS4.out.d 6).trans rfl; have fqd6 := blk_frozen HS4.out.d 6
  have qz0 := (blk_cell HS4.out.z 0).trans rfl; have fqz0 := blk_frozen HS4.out.z 0; have qz1 := (blk_cell HS4.out.z 1).trans rfl; have fqz1 := blk_frozen HS4.out.z 1; have qz2 := (blk_cell HS4.out.z 2).trans rfl; have fqz2 := blk_frozen HS4.out.z 2; have qz3 := (blk_cell HS4.out.z 3).trans rfl; have fqz3 := blk_frozen HS4.out.z 3; have qz4 := (blk_cell HS4.out.z 4).trans rfl; have fqz4 := blk_frozen HS4.out.z 4; have qz5 := (blk_cell HS4.out.z 5).trans rfl; have fqz5 := blk_frozen HS4.out.z 5; have qz6 := (blk_cell HS4.out.z 6).trans rfl; have fqz6 := blk_frozen HS4.out.z 6
  have qc0 := (blk_cell HS4.out.c 0).trans rfl; have fqc0 := blk_frozen HS4.out.c 0; have qc1 := (blk_cell HS4.out.c 1).trans rfl; have fqc1 := blk_frozen HS4.out.c 1; have qc2 := (blk_cell HS4.out.c 2).trans rfl; have fqc2 := blk_frozen HS4.out.c 2; have qc3 := (blk_cell HS4.out.c 3).trans rfl; have fqc3 := blk_frozen HS4.out.c 3; have qc4 := (blk_cell HS4.out.c 4).trans rfl; have fqc4 := blk_frozen HS4.out.c 4; have qc5 := (blk_cell HS4.out.c 5).trans rfl; have fqc5 := blk_frozen HS4.out.c 5; have qc6 := (blk_cell HS4.out.c 6).trans rfl; have fqc6 := blk_frozen HS4.out.c 6
  have hzz := blk_lt HS4.out.c
  have HGZ := Aside0.mk (blk_lt HS4.out.z)
  have HWZ := Aside0.mk HS4.out.b.size
  go_upto_region 10 with (first
    | ((with_reducible refine gate_dst (N := 47) rfl ?_); refine Kd.R_lit (Kd.int .u8) _ 5 ?hg (N := 47) ?hd (xs := ([] : List Int)) (inner := []) (ok := fun _ => True) (okp := fun _ => True) ?hr ?hp (fun _ hk => hk) trivial (Below.refl _ _) (Nat.le_refl _) (by simp) ?_; (case hd => rfl); (case hg => rfl); (case hr => first | (go_simp; done) | (go_simp; rfl)); (case hp => exact (Reps.none _ _)); intro v1 w1 ho hb _ _; have HO := Aside0.mk ho; have HBa := Aside0.mk hb; have hs5 := HS4.out.below hb; have HS5 := Aside0.mk hs5; have ca2 := (blk_cell hs5.d 2).trans rfl; clear ho hb hs5)
    | ((with_reducible refine gate_builtin (b := .append) (xs := #[.tmp 47, .tmp 52]) rfl ?_); at_builtin; refine Kd.R_append_rows (Kd.int .u8) (w0 := Wd) Wd.heap.size rfl (.tmp 47) (.tmp 52) 22 5 (.int .u8 0) 1 rfl Try.underlying22 info5 rfl (by decide) (by omega) v1 [] l1 _ _ _ (fun _ => True) (fun _ => False) rfl rfl ?aO ?aR (fun _ _ h => h) (fun _ h => h.elim) ?aF ?aB ?aS ?aL ?_; (case aR => exact Kd.C_below (Kd.V_reads' HS1.out).2.2 HS5.out.b); (case aB => exact HBa.out); (case aF => exact (fun _ _ => trivial)); (case aO => exact HO.out); (case aS => exact HBa.out.size); (case aL => have := HLk.out; have := HNb.out; have := HNy.out; (try simp only [List.length_nil]); omega); intro v2 w2 ho hb hg hat; rw [List.nil_append] at ho; have HO2 := Aside0.mk ho; have HBc := Aside0.mk hb; have HS6 := Aside0.mk (HS4.out.below hb); clear ho hb hg hat)
    | ((with_reducible refine gate_builtin (b := .append) (xs := #[.tmp 53, .tmp 54]) rfl ?_); at_builtin; refine Kd.R_append_rows (Kd.int .u8) (w0 := Wd) Wd.heap.size rfl (.tmp 53) (.tmp 54) 22 5 (.int .u8 0) 1 rfl Try.underlying22 info5 rfl (by decide) (by omega) v2 l1 b _ _ _ (fun _ => True) (fun _ => False) rfl rfl ?aO ?aR (fun _ _ h => h) (fun _ h => h.elim) ?aF ?aB ?aS ?aL ?_; (case aR => exact Kd.C_below HRb.out HS6.out.b); (case aB => exact HBc.out); (case aF => exact (fun _ _ => trivial)); (case aO => exact HO2.out); (case aS => exact HBc.out.size); (case aL => have := HLk.out; have := HNb.out; have := HNy.out; (try simp only [List.length_nil]); omega); intro v3 w3 ho hb hg hat; rw [← HYY.out] at ho; obtain ⟨Fv, fc, rfl⟩ := Kd.R_slice ho; have hs7 := HS4.out.below hb; have HO3 := Aside0.mk (dl.mv (i := 2) (x := .slice Fv yy.length fc) (show w.heap.size ≤ w.heap.size + 1 by omega) (fun k_ hk => hk) (Kd.R_mono (Kd.R_bound ho) (fun k_ hk => show w.heap.size + 1 < k_ from by have := hk.2.1; have := blk_lt HS4.out.c; omega))); have HS7 := Aside0.mk (hs7.set 2 (.slice Fv yy.length fc) rfl); have qw0 := (blk_cell hs7.d 0).trans rfl; have fqw0 := blk_frozen hs7.d 0; have qw1 := (blk_cell hs7.d 1).trans rfl; have fqw1 := blk_frozen hs7.d 1; have qw2 := (blk_cell hs7.d 2).trans rfl; have fqw2 := blk_frozen hs7.d 2; have qw3 := (blk_cell hs7.d 3).trans rfl; have fqw3 := blk_frozen hs7.d 3; have qw4 := (blk_cell hs7.d 4).trans rfl; have fqw4 := blk_frozen hs7.d 4; have qw5 := (blk_cell hs7.d 5).trans rfl; have fqw5 := blk_frozen hs7.d 5; have qw6 := (blk_cell hs7.d 6).trans rfl; have fqw6 := blk_frozen hs7.d 6; clear ho hb hg hat hs7))
  clear qd0 fqd0 qd1 fqd1 qd2 fqd2 qd3 fqd3 qd4 fqd4 qd5 fqd5 qd6 fqd6
  clear qz0 fqz0 qz1 fqz1 qz2 fqz2 qz3 fqz3 qz4 fqz4 qz5 fqz5 qz6 fqz6
  clear qc0 fqc0 qc1 fqc1 qc2 fqc2 qc3 fqc3 qc4 fqc4 qc5 fqc5 qc6 fqc6
  clear qw0 fqw0 qw1 fqw1 qw2 fqw2 qw3 fqw3 qw4 fqw4 qw5 fqw5 qw6 fqw6
  generalize w3.setCell ⟨w.heap.size, 2, none⟩ (.slice Fv yy.length fc) = We at HS7 HO3 ⊢
  clear HS4 HO HO2 HS5 HS6 HBa HBc ca2 hzz
  have qe0 := (blk_cell HS7.out.d 0).trans rfl; have fqe0 := blk_frozen HS7.out.d 0; have qe1 := (blk_cell HS7.out.d 1).trans rfl; have fqe1 := blk_frozen HS7.out.d 1; have qe2 := (blk_cell HS7.out.d 2).trans rfl; have fqe2 := blk_frozen HS7.out.d 2; have qe3 := (blk_cell HS7.out.d 3).trans rfl; have fqe3 := blk_frozen HS7.out.d 3; have qe4 := (blk_cell HS7.out.d 4).trans rfl; have fqe4 := blk_frozen HS7.out.d 4; have qe5 := (blk_cell HS7.out.d 5).trans rfl; have fqe5 := blk_frozen HS7.out.d 5; have qe6 := (blk_cell HS7.out.d 6).trans rfl; have fqe6 := blk_frozen HS7.out.d 6
  have qf0 := (blk_cell HS7.out.z 0).trans rfl; have fqf0 := blk_frozen HS7.out.z 0; have qf1 := (blk_cell HS7.out.z 1).trans rfl; have fqf1 := blk_frozen HS7.out.z 1; have qf2 := (blk_cell HS7.out.z 2).trans rfl; have fqf2 := blk_frozen HS7.out.z 2; have qf3 := (blk_cell HS7.out.z 3).trans rfl; have fqf3 := blk_frozen HS7.out.z 3; have qf4 := (blk_cell HS7.out.z 4).trans rfl; have fqf4 := blk_frozen HS7.out.z 4; have qf5 := (blk_cell HS7.out.z 5).trans rfl; have fqf5 := blk_frozen HS7.out.z 5; have qf6 := (blk_cell HS7.out.z 6).trans rfl; have fqf6 := blk_frozen HS7.out.z 6
  have hzx := blk_lt HS7.out.z
  go_wp2
  have hle : w.heap.size ≤ w.heap.size + 1 := by omega
  have hfin := fun a b c d e f x => below_set (j := 6) (v := x) (below_set (j := 5) (v := f) (below_set (j := 4) (v := e) (below_set (j := 3) (v := d) (below_set (j := 2) (v := c) (below_set (j := 1) (v := b) (below_set (j := 0) (v := a) HS7.out.b hle) hle) hle) hle) hle) hle) hle
  refine bodyPost_ret (results_ct rfl _ _ (w.heap.size + 1) 74 _ (0, 0) _ rfl (sp.set7 HS7.out.z) Try.underlying74 rfl (by kernel_rfl)) rfl ?_
  exact ⟨_, _, rfl, sp.Row.fin (W := Wd) _ _ _ _ _ _ _ HS0.out HS1.out (.inl ⟨rfl, rfl⟩) HGZ.out HWZ.out (hfin _ _ _ _ _ _ _), sp.Row.fin (W := Wd) _ _ _ _ _ _ _ HS0.out HS1.out (.inr (.inr (Kd.R_mono HO3.out (fun _ _ => trivial)))) HGZ.out HWZ.out (hfin _ _ _ _ _ _ _), hfin _ _ _ _ _ _ _⟩
set_option maxHeartbeats 3200000 in
set_option maxRecDepth 100000 in
theorem rf.goes61_1c {A0 : Option Addr} {c0 : Nat} {l0 : List Int} {s0 : Int} {A1 : Option Addr} {c1 : Nat} {l1 : List Int} {s1 fuse keep f9 : Int} {down : Bool} {w : World} {P0 P2 : Nat → Prop} (Bb : Option Addr) (cb : Nat) (b : List Int) (hs0 : Kd.V (Kd.int .u8) 5 w w.heap.size P0 (.slice A0 l0.length c0) l0) (hs1 : Kd.V (Kd.int .u8) 5 w w.heap.size P2 (.slice A1 l1.length c1) l1) (HG : ∀ W, Below w.heap.size w W → Calls Try.prog 101 #[.agg #[.slice A0 l0.length c0, .int .i64 s0, .slice A1 l1.length c1, .int .i64 s1, .int .i64 0, .int .i64 keep, .bool false], .int .i64 1] W fun e w' => e = .returned (.tuple #[.agg #[.slice A0 l0.length c0, .int .i64 s0, .slice A1 l1.length c1, .int .i64 s1, .int .i64 0, .int .i64 keep, .bool false], .bool true, .int .i64 0]) ∧ Below W.heap.size W w') (hrb : Kd.C (Kd.int .u8) w Bb b.length b) (hcb : b.length ≤ cb) (hnb : b.length < 140737488355328) (hl : l1.length ≤ 1048576) (hf : ¬ 1048576 < l1.length + b.length) (h0k : 0 ≤ keep) (hkb : keep < (b.length : Int)) (y9 : List Int) (hy9 : y9 = b.take keep.toNat) (yy : List Int) (hyy : yy = (l1 ++ y9)) (r : List Int × Int × List Int × Int × Int × Int × Bool × Int) (h : ((wristbandref17_Lose.f l0 s0 yy s1 0 keep false keep).bind fun r => some (r.1, r.2.1, r.2.2.1, r.2.2.2.1, r.2.2.2.2.1, r.2.2.2.2.2.1, r.2.2.2.2.2.2, (14 : Int))) = some r) :
    Calls Try.prog 61 #[.agg #[.slice A0 l0.length c0, .int .i64 s0, .slice A1 l1.length c1, .int .i64 s1, .int .i64 0, .int .i64 keep, .bool false], .int .i64 1, .slice Bb b.length cb] w (fun e w' => ∃ v0_ v2_ : Value, e = .returned (.tuple #[.agg #[v0_, .int .i64 r.2.1, v2_, .int .i64 r.2.2.2.1, .int .i64 r.2.2.2.2.1, .int .i64 r.2.2.2.2.2.1, .bool r.2.2.2.2.2.2.1], .int .i64 r.2.2.2.2.2.2.2]) ∧ Kd.V (Kd.int .u8) 5 w' w.heap.size (fun k_ => ((P0 k_ ∨ P2 k_) ∨ w.heap.size ≤ k_)) v0_ r.1 ∧ Kd.V (Kd.int .u8) 5 w' w.heap.size (fun k_ => ((P0 k_ ∨ P2 k_) ∨ w.heap.size ≤ k_)) v2_ r.2.2.1 ∧ Below w.heap.size w w') := by
  have b8 : decide (1048576 < l1.length + b.length) = false := decide_eq_false hf
  have b9 : decide ((1048576 : Int) < (l1.length : Int) + (b.length : Int)) = false := decide_eq_false (by omega)
  have hw9 : wrap64 ((l1.length : Int) + (b.length : Int)) = (l1.length : Int) + (b.length : Int) := by unfold wrap64; omega
  have HLk := Aside0.mk hl
  have HNb := Aside0.mk (show l1.length + b.length ≤ 1048576 by omega)
  have HYY := Aside0.mk hyy
  clear hyy
  have b7 : decide (keep < (b.length : Int)) = true := decide_eq_true hkb
  obtain ⟨⟨x1, x2, x3, x4, x5, x6, x7⟩, hL, h⟩ := Option.bind_eq_some_iff.1 h
  obtain rfl := Option.some.inj h
  clear h
  have HLo := Aside0.mk hL
  clear hL
  obtain ⟨i0, hi0, _, _, _⟩ := info_parts info5
  have hcut := cut_to (P := Try.prog) 22 5 .i64 Try.underlying22 hi0 Bb b.length cb keep h0k (by omega) hcb
  have hq : y9.length = keep.toNat := by rw [hy9, List.length_take]; omega
  rw [← hq] at hcut
  have HRb : Aside0 (Kd.C (Kd.int .u8) w Bb y9.length y9) := by rw [hy9]; exact ⟨Kd.C_take (m := keep.toNat) hrb (by omega)⟩
  have HNy := Aside0.mk (show y9.length ≤ b.length by omega)
  clear hq hy9 hi0 hkb h0k hrb hcb hf hl hnb
  have HS := Aside0.mk (rf.St.start w (.slice A0 l0.length c0) (.int .i64 s0) (.slice A1 l1.length c1) (.int .i64 s1) (.int .i64 0) (.int .i64 keep) (.bool false))
  have HG_ := Aside0.mk HG
  have HS0 := Aside0.mk hs0
  have HS1 := Aside0.mk hs1
  clear HG hs0 hs1
  go_enter Try.func61, Try.ntmps61
  go_upto_region 2 with fail
  generalize ((w.alloc (.cells #[.slice A0 l0.length c0, .int .i64 s0, .slice A1 l1.length c1, .int .i64 s1, .int .i64 0, .int .i64 keep, .bool false] 74)).alloc (.cells #[.slice none 0 0, .int .i64 0, .slice none 0 0, .int .i64 0, .int .i64 0, .int .i64 0, .bool false] 74)).alloc (.cells #[.slice A0 l0.length c0, .int .i64 s0, .slice A1 l1.length c1, .int .i64 s1, .int .i64 0, .int .i64 keep, .bool false] 74) = W3 at HS ⊢
  have qa0 := (blk_cell HS.out.d 0).trans rfl; have fqa0 := blk_frozen HS.out.d 0; have qa1 := (blk_cell HS.out.d 1).trans rfl; have fqa1 := blk_frozen HS.out.d 1; have qa2 := (blk_cell HS.out.d 2).trans rfl; have fqa2 := blk_frozen HS.out.d 2; have qa3 := (blk_cell HS.out.d 3).trans rfl; have fqa3 := blk_frozen HS.out.d 3; have qa4 := (blk_cell HS.out.d 4).trans rfl; have fqa4 := blk_frozen HS.out.d 4; have qa5 := (blk_cell HS.out.d 5).trans rfl; have fqa5 := blk_frozen HS.out.d 5; have qa6 := (blk_cell HS.out.d 6).trans rfl; have fqa6 := blk_frozen HS.out.d 6
  go_upto_region 3 with (go_at_call 101; refine Calls.mono (HG_.out _ HS.out.b) ?_; rintro e w4 ⟨rfl, hb⟩; have hs4 := HS.out.below hb; have HS4 := Aside0.mk (hs4.set7 (.slice A0 l0.length c0) (.int .i64 s0) (.slice A1 l1.length c1) (.int .i64 s1) (.int .i64 0) (.int .i64 keep) (.bool false)); have qb0 := (blk_cell hs4.d 0).trans rfl; have fqb0 := blk_frozen hs4.d 0; have qb1 := (blk_cell hs4.d 1).trans rfl; have fqb1 := blk_frozen hs4.d 1; have qb2 := (blk_cell hs4.d 2).trans rfl; have fqb2 := blk_frozen hs4.d 2; have qb3 := (blk_cell hs4.d 3).trans rfl; have fqb3 := blk_frozen hs4.d 3; have qb4 := (blk_cell hs4.d 4).trans rfl; have fqb4 := blk_frozen hs4.d 4; have qb5 := (blk_cell hs4.d 5).trans rfl; have fqb5 := blk_frozen hs4.d 5; have qb6 := (blk_cell hs4.d 6).trans rfl; have fqb6 := blk_frozen hs4.d 6; clear hb hs4)
  clear qa0 fqa0 qa1 fqa1 qa2 fqa2 qa3 fqa3 qa4 fqa4 qa5 fqa5 qa6 fqa6
  clear qb0 fqb0 qb1 fqb1 qb2 fqb2 qb3 fqb3 qb4 fqb4 qb5 fqb5 qb6 fqb6
  generalize ((((((w4.setCell ⟨w.heap.size, 0, none⟩ (.slice A0 l0.length c0)).setCell ⟨w.heap.size, 1, none⟩ (.int .i64 s0)).setCell ⟨w.heap.size, 2, none⟩ (.slice A1 l1.length c1)).setCell ⟨w.heap.size, 3, none⟩ (.int .i64 s1)).setCell ⟨w.heap.size, 4, none⟩ (.int .i64 0)).setCell ⟨w.heap.size, 5, none⟩ (.int .i64 keep)).setCell ⟨w.heap.size, 6, none⟩ (.bool false) = Wd at HS4 ⊢
  clear HS HG_
  have qd0 := (blk_cell HS4.out.d 0).trans rfl; have fqd0 := blk_frozen HS4.out.d 0; have qd1 := (blk_cell HS4.out.d 1).trans rfl; have fqd1 := blk_frozen HS4.out.d 1; have qd2 := (blk_cell HS4.out.d 2).trans rfl; have fqd2 := blk_frozen HS4.out.d 2; have qd3 := (blk_cell HS4.out.d 3).trans rfl; have fqd3 := blk_frozen HS4.out.d 3; have qd4 := (blk_cell HS4.out.d 4).trans rfl; have fqd4 := blk_frozen HS4.out.d 4; have qd5 := (blk_cell HS4.out.d 5).trans rfl; have fqd5 := blk_frozen HS4.out.d 5; have qd6 := (blk_cell HS4.out.d 6).trans rfl; have fqd6 := blk_frozen HS4.out.d 6
  have qz0 := (blk_cell HS4.out.z 0).trans rfl; have fqz0 := blk_frozen HS4.out.z 0; have qz1 := (blk_cell HS4.out.z 1).trans rfl; have fqz1 := blk_frozen HS4.out.z 1; have qz2 := (blk_cell HS4.out.z 2).trans rfl; have fqz2 := blk_frozen HS4.out.z 2; have qz3 := (blk_cell HS4.out.z 3).trans rfl; have fqz3 := blk_frozen HS4.out.z 3; have qz4 := (blk_cell HS4.out.z 4).trans rfl; have fqz4 := blk_frozen HS4.out.z 4; have qz5 := (blk_cell HS4.out.z 5).trans rfl; have fqz5 := blk_frozen HS4.out.z 5; have qz6 := (blk_cell HS4.out.z 6).trans rfl; have fqz6 := blk_frozen HS4.out.z 6
  have qc0 := (blk_cell HS4.out.c 0).trans rfl; have fqc0 := blk_frozen HS4.out.c 0; have qc1 := (blk_cell HS4.out.c 1).trans rfl; have fqc1 := blk_frozen HS4.out.c 1; have qc2 := (blk_cell HS4.out.c 2).trans rfl; have fqc2 := blk_frozen HS4.out.c 2; have qc3 := (blk_cell HS4.out.c 3).trans rfl; have fqc3 := blk_frozen HS4.out.c 3; have qc4 := (blk_cell HS4.out.c 4).trans rfl; have fqc4 := blk_frozen HS4.out.c 4; have qc5 := (blk_cell HS4.out.c 5).trans rfl; have fqc5 := blk_frozen HS4.out.c 5; have qc6 := (blk_cell HS4.out.c 6).trans rfl; have fqc6 := blk_frozen HS4.out.c 6
  have hzz := blk_lt HS4.out.c
  have HGZ := Aside0.mk (blk_lt HS4.out.z)
  have HWZ := Aside0.mk HS4.out.b.size
  go_upto_region 10 with (first
    | ((with_reducible refine gate_dst (N := 47) rfl ?_); refine Kd.R_lit (Kd.int .u8) _ 5 ?hg (N := 47) ?hd (xs := ([] : List Int)) (inner := []) (ok := fun _ => True) (okp := fun _ => True) ?hr ?hp (fun _ hk => hk) trivial (Below.refl _ _) (Nat.le_refl _) (by simp) ?_; (case hd => rfl); (case hg => rfl); (case hr => first | (go_simp; done) | (go_simp; rfl)); (case hp => exact (Reps.none _ _)); intro v1 w1 ho hb _ _; have HO := Aside0.mk ho; have HBa := Aside0.mk hb; have hs5 := HS4.out.below hb; have HS5 := Aside0.mk hs5; have ca2 := (blk_cell hs5.d 2).trans rfl; clear ho hb hs5)
    | ((with_reducible refine gate_builtin (b := .append) (xs := #[.tmp 47, .tmp 52]) rfl ?_); at_builtin; refine Kd.R_append_rows (Kd.int .u8) (w0 := Wd) Wd.heap.size rfl (.tmp 47) (.tmp 52) 22 5 (.int .u8 0) 1 rfl Try.underlying22 info5 rfl (by decide) (by omega) v1 [] l1 _ _ _ (fun _ => True) (fun _ => False) rfl rfl ?aO ?aR (fun _ _ h => h) (fun _ h => h.elim) ?aF ?aB ?aS ?aL ?_; (case aR => exact Kd.C_below (Kd.V_reads' HS1.out).2.2 HS5.out.b); (case aB => exact HBa.out); (case aF => exact (fun _ _ => trivial)); (case aO => exact HO.out); (case aS => exact HBa.out.size); (case aL => have := HLk.out; have := HNb.out; have := HNy.out; (try simp only [List.length_nil]); omega); intro v2 w2 ho hb hg hat; rw [List.nil_append] at ho; have HO2 := Aside0.mk ho; have HBc := Aside0.mk hb; have HS6 := Aside0.mk (HS4.out.below hb); clear ho hb hg hat)
    | ((with_reducible refine gate_builtin (b := .append) (xs := #[.tmp 53, .tmp 54]) rfl ?_); at_builtin; refine Kd.R_append_rows (Kd.int .u8) (w0 := Wd) Wd.heap.size rfl (.tmp 53) (.tmp 54) 22 5 (.int .u8 0) 1 rfl Try.underlying22 info5 rfl (by decide) (by omega) v2 l1 y9 _ _ _ (fun _ => True) (fun _ => False) rfl rfl ?aO ?aR (fun _ _ h => h) (fun _ h => h.elim) ?aF ?aB ?aS ?aL ?_; (case aR => exact Kd.C_below HRb.out HS6.out.b); (case aB => exact HBc.out); (case aF => exact (fun _ _ => trivial)); (case aO => exact HO2.out); (case aS => exact HBc.out.size); (case aL => have := HLk.out; have := HNb.out; have := HNy.out; (try simp only [List.length_nil]); omega); intro v3 w3 ho hb hg hat; rw [← HYY.out] at ho; obtain ⟨Fv, fc, rfl⟩ := Kd.R_slice ho; have hs7 := HS4.out.below hb; have HO3 := Aside0.mk (dl.mv (i := 2) (x := .slice Fv yy.length fc) (show w.heap.size ≤ w.heap.size + 1 by omega) (fun k_ hk => hk) (Kd.R_mono (Kd.R_bound ho) (fun k_ hk => show w.heap.size + 1 < k_ from by have := hk.2.1; have := blk_lt HS4.out.c; omega))); have HS7 := Aside0.mk (hs7.set 2 (.slice Fv yy.length fc) rfl); have qw0 := (blk_cell hs7.d 0).trans rfl; have fqw0 := blk_frozen hs7.d 0; have qw1 := (blk_cell hs7.d 1).trans rfl; have fqw1 := blk_frozen hs7.d 1; have qw2 := (blk_cell hs7.d 2).trans rfl; have fqw2 := blk_frozen hs7.d 2; have qw3 := (blk_cell hs7.d 3).trans rfl; have fqw3 := blk_frozen hs7.d 3; have qw4 := (blk_cell hs7.d 4).trans rfl; have fqw4 := blk_frozen hs7.d 4; have qw5 := (blk_cell hs7.d 5).trans rfl; have fqw5 := blk_frozen hs7.d 5; have qw6 := (blk_cell hs7.d 6).trans rfl; have fqw6 := blk_frozen hs7.d 6; clear ho hb hg hat hs7))
  clear qd0 fqd0 qd1 fqd1 qd2 fqd2 qd3 fqd3 qd4 fqd4 qd5 fqd5 qd6 fqd6
  clear qz0 fqz0 qz1 fqz1 qz2 fqz2 qz3 fqz3 qz4 fqz4 qz5 fqz5 qz6 fqz6
  clear qc0 fqc0 qc1 fqc1 qc2 fqc2 qc3 fqc3 qc4 fqc4 qc5 fqc5 qc6 fqc6
  clear qw0 fqw0 qw1 fqw1 qw2 fqw2 qw3 fqw3 qw4 fqw4 qw5 fqw5 qw6 fqw6
  generalize w3.setCell ⟨w.heap.size, 2, none⟩ (.slice Fv yy.length fc) = We at HS7 HO3 ⊢
  clear HS4 HO HO2 HS5 HS6 HBa HBc ca2 hzz
  have qe0 := (blk_cell HS7.out.d 0).trans rfl; have fqe0 := blk_frozen HS7.out.d 0; have qe1 := (blk_cell HS7.out.d 1).trans rfl; have fqe1 := blk_frozen HS7.out.d 1; have qe2 := (blk_cell HS7.out.d 2).trans rfl; have fqe2 := blk_frozen HS7.out.d 2; have qe3 := (blk_cell HS7.out.d 3).trans rfl; have fqe3 := blk_frozen HS7.out.d 3; have qe4 := (blk_cell HS7.out.d 4).trans rfl; have fqe4 := blk_frozen HS7.out.d 4; have qe5 := (blk_cell HS7.out.d 5).trans rfl; have fqe5 := blk_frozen HS7.out.d 5; have qe6 := (blk_cell HS7.out.d 6).trans rfl; have fqe6 := blk_frozen HS7.out.d 6
  have qf0 := (blk_cell HS7.out.z 0).trans rfl; have fqf0 := blk_frozen HS7.out.z 0; have qf1 := (blk_cell HS7.out.z 1).trans rfl; have fqf1 := blk_frozen HS7.out.z 1; have qf2 := (blk_cell HS7.out.z 2).trans rfl; have fqf2 := blk_frozen HS7.out.z 2; have qf3 := (blk_cell HS7.out.z 3).trans rfl; have fqf3 := blk_frozen HS7.out.z 3; have qf4 := (blk_cell HS7.out.z 4).trans rfl; have fqf4 := blk_frozen HS7.out.z 4; have qf5 := (blk_cell HS7.out.z 5).trans rfl; have fqf5 := blk_frozen HS7.out.z 5; have qf6 := (blk_cell HS7.out.z 6).trans rfl; have fqf6 := blk_frozen HS7.out.z 6
  have hzx := blk_lt HS7.out.z
  go_wp2_with (go_at_call 102; refine Calls.mono (wristbandref17_Lose.calls _ _ l0 s0 _ _ yy s1 0 keep false keep x1 x2 x3 x4 x5 x6 x7 _ (Kd.C_below (Kd.V_reads' HS0.out).2.2 HS7.out.b) (Kd.V_reads' HS0.out).2.1 (Kd.R_reads' HO3.out).2.2 (Kd.R_reads' HO3.out).2.1 HLo.out) ?_; rintro e w6 ⟨v0, v2, rfl, h0, h2, hb⟩; obtain ⟨E0, m0, rfl⟩ := Kd.R_slice h0; obtain ⟨E2, m2, rfl⟩ := Kd.R_slice h2; have H0 := Aside0.mk (Kd.R_mono h0 (fun _ _ => trivial)); have H2 := Aside0.mk (Kd.R_mono h2 (fun _ _ => trivial)); have hs6 := HS7.out.below hb; have HS8 := Aside0.mk hs6; have qy0 := (blk_cell hs6.z 0).trans rfl; have fqy0 := blk_frozen hs6.z 0; have qy1 := (blk_cell hs6.z 1).trans rfl; have fqy1 := blk_frozen hs6.z 1; have qy2 := (blk_cell hs6.z 2).trans rfl; have fqy2 := blk_frozen hs6.z 2; have qy3 := (blk_cell hs6.z 3).trans rfl; have fqy3 := blk_frozen hs6.z 3; have qy4 := (blk_cell hs6.z 4).trans rfl; have fqy4 := blk_frozen hs6.z 4; have qy5 := (blk_cell hs6.z 5).trans rfl; have fqy5 := blk_frozen hs6.z 5; have qy6 := (blk_cell hs6.z 6).trans rfl; have fqy6 := blk_frozen hs6.z 6; have hzy := blk_lt hs6.c; clear h0 h2 hb hs6)
  have HGZ := Aside0.mk (blk_lt HS7.out.z)
  have HWZ := Aside0.mk HS7.out.b.size
  have hle : w.heap.size ≤ w.heap.size + 1 := by omega
  have hfin := fun a b c d e f x => below_set (j := 6) (v := x) (below_set (j := 5) (v := f) (below_set (j := 4) (v := e) (below_set (j := 3) (v := d) (below_set (j := 2) (v := c) (below_set (j := 1) (v := b) (below_set (j := 0) (v := a) HS8.out.b hle) hle) hle) hle) hle) hle) hle
  refine bodyPost_ret (results_ct rfl _ _ (w.heap.size + 1) 74 _ (0, 0) _ rfl (sp.set7 HS8.out.z) Try.underlying74 rfl (by kernel_rfl)) rfl ?_
  exact ⟨_, _, rfl, sp.Row.fin (W := We) _ _ _ _ _ _ _ HS0.out HS1.out (.inr (.inr H0.out)) HGZ.out HWZ.out (hfin _ _ _ _ _ _ _), sp.Row.fin (W := We) _ _ _ _ _ _ _ HS0.out HS1.out (.inr (.inr H2.out)) HGZ.out HWZ.out (hfin _ _ _ _ _ _ _), hfin _ _ _ _ _ _ _⟩
set_option maxHeartbeats 3200000 in
set_option maxRecDepth 100000 in
theorem rf.goes61_1 {A0 : Option Addr} {c0 : Nat} {l0 : List Int} {s0 : Int} {A1 : Option Addr} {c1 : Nat} {l1 : List Int} {s1 fuse keep f9 : Int} {down : Bool} {w : World} {P0 P2 : Nat → Prop} (Bb : Option Addr) (cb : Nat) (b : List Int) (hs0 : Kd.V (Kd.int .u8) 5 w w.heap.size P0 (.slice A0 l0.length c0) l0) (hs1 : Kd.V (Kd.int .u8) 5 w w.heap.size P2 (.slice A1 l1.length c1) l1) (HG : ∀ W, Below w.heap.size w W → Calls Try.prog 101 #[.agg #[.slice A0 l0.length c0, .int .i64 s0, .slice A1 l1.length c1, .int .i64 s1, .int .i64 0, .int .i64 keep, .bool false], .int .i64 1] W fun e w' => e = .returned (.tuple #[.agg #[.slice A0 l0.length c0, .int .i64 s0, .slice A1 l1.length c1, .int .i64 s1, .int .i64 0, .int .i64 keep, .bool false], .bool true, .int .i64 0]) ∧ Below W.heap.size W w') (hrb : Kd.C (Kd.int .u8) w Bb b.length b) (hcb : b.length ≤ cb) (hnb : b.length < 140737488355328) (hl : l1.length ≤ 1048576) (hf : ¬ 1048576 < l1.length + b.length) (h0k : 0 ≤ keep) (hkb : ¬ keep < (b.length : Int)) (yy : List Int) (hyy : yy = (l1 ++ b)) (r : List Int × Int × List Int × Int × Int × Int × Bool × Int) (h : ((wristbandref17_Lose.f l0 s0 yy s1 0 keep false keep).bind fun r => some (r.1, r.2.1, r.2.2.1, r.2.2.2.1, r.2.2.2.2.1, r.2.2.2.2.2.1, r.2.2.2.2.2.2, (14 : Int))) = some r) :
    Calls Try.prog 61 #[.agg #[.slice A0 l0.length c0, .int .i64 s0, .slice A1 l1.length c1, .int .i64 s1, .int .i64 0, .int .i64 keep, .bool false], .int .i64 1, .slice Bb b.length cb] w (fun e w' => ∃ v0_ v2_ : Value, e = .returned (.tuple #[.agg #[v0_, .int .i64 r.2.1, v2_, .int .i64 r.2.2.2.1, .int .i64 r.2.2.2.2.1, .int .i64 r.2.2.2.2.2.1, .bool r.2.2.2.2.2.2.1], .int .i64 r.2.2.2.2.2.2.2]) ∧ Kd.V (Kd.int .u8) 5 w' w.heap.size (fun k_ => ((P0 k_ ∨ P2 k_) ∨ w.heap.size ≤ k_)) v0_ r.1 ∧ Kd.V (Kd.int .u8) 5 w' w.heap.size (fun k_ => ((P0 k_ ∨ P2 k_) ∨ w.heap.size ≤ k_)) v2_ r.2.2.1 ∧ Below w.heap.size w w') := by
  have b8 : decide (1048576 < l1.length + b.length) = false := decide_eq_false hf
  have b9 : decide ((1048576 : Int) < (l1.length : Int) + (b.length : Int)) = false := decide_eq_false (by omega)
  have hw9 : wrap64 ((l1.length : Int) + (b.length : Int)) = (l1.length : Int) + (b.length : Int) := by unfold wrap64; omega
  have HLk := Aside0.mk hl
  have HNb := Aside0.mk (show l1.length + b.length ≤ 1048576 by omega)
  have HYY := Aside0.mk hyy
  clear hyy
  have b7 : decide (keep < (b.length : Int)) = false := decide_eq_false hkb
  obtain ⟨⟨x1, x2, x3, x4, x5, x6, x7⟩, hL, h⟩ := Option.bind_eq_some_iff.1 h
  obtain rfl := Option.some.inj h
  clear h
  have HLo := Aside0.mk hL
  clear hL
  have HRb := Aside0.mk hrb
  have HNy := Aside0.mk (Nat.le_refl b.length)
  clear hrb hcb hf hl hnb hkb h0k
  have HS := Aside0.mk (rf.St.start w (.slice A0 l0.length c0) (.int .i64 s0) (.slice A1 l1.length c1) (.int .i64 s1) (.int .i64 0) (.int .i64 keep) (.bool false))
  have HG_ := Aside0.mk HG
  have HS0 := Aside0.mk hs0
  have HS1 := Aside0.mk hs1
  clear HG hs0 hs1
  go_enter Try.func61, Try.ntmps61
  go_upto_region 2 with fail
  generalize ((w.alloc (.cells #[.slice A0 l0.length c0, .int .i64 s0, .slice A1 l1.length c1, .int .i64 s1, .int .i64 0, .int .i64 keep, .bool false] 74)).alloc (.cells #[.slice none 0 0, .int .i64 0, .slice none 0 0, .int .i64 0, .int .i64 0, .int .i64 0, .bool false] 74)).alloc (.cells #[.slice A0 l0.length c0, .int .i64 s0, .slice A1 l1.length c1, .int .i64 s1, .int .i64 0, .int .i64 keep, .bool false] 74) = W3 at HS ⊢
  have qa0 := (blk_cell HS.out.d 0).trans rfl; have fqa0 := blk_frozen HS.out.d 0; have qa1 := (blk_cell HS.out.d 1).trans rfl; have fqa1 := blk_frozen HS.out.d 1; have qa2 := (blk_cell HS.out.d 2).trans rfl; have fqa2 := blk_frozen HS.out.d 2; have qa3 := (blk_cell HS.out.d 3).trans rfl; have fqa3 := blk_frozen HS.out.d 3; have qa4 := (blk_cell HS.out.d 4).trans rfl; have fqa4 := blk_frozen HS.out.d 4; have qa5 := (blk_cell HS.out.d 5).trans rfl; have fqa5 := blk_frozen HS.out.d 5; have qa6 := (blk_cell HS.out.d 6).trans rfl; have fqa6 := blk_frozen HS.out.d 6
  go_upto_region 3 with (go_at_call 101; refine Calls.mono (HG_.out _ HS.out.b) ?_; rintro e w4 ⟨rfl, hb⟩; have hs4 := HS.out.below hb; have HS4 := Aside0.mk (hs4.set7 (.slice A0 l0.length c0) (.int .i64 s0) (.slice A1 l1.length c1) (.int .i64 s1) (.int .i64 0) (.int .i64 keep) (.bool false)); have qb0 := (blk_cell hs4.d 0).trans rfl; have fqb0 := blk_frozen hs4.d 0; have qb1 := (blk_cell hs4.d 1).trans rfl; have fqb1 := blk_frozen hs4.d 1; have qb2 := (blk_cell hs4.d 2).trans rfl; have fqb2 := blk_frozen hs4.d 2; have qb3 := (blk_cell hs4.d 3).trans rfl; have fqb3 := blk_frozen hs4.d 3; have qb4 := (blk_cell hs4.d 4).trans rfl; have fqb4 := blk_frozen hs4.d 4; have qb5 := (blk_cell hs4.d 5).trans rfl; have fqb5 := blk_frozen hs4.d 5; have qb6 := (blk_cell hs4.d 6).trans rfl; have fqb6 := blk_frozen hs4.d 6; clear hb hs4)
  clear qa0 fqa0 qa1 fqa1 qa2 fqa2 qa3 fqa3 qa4 fqa4 qa5 fqa5 qa6 fqa6
  clear qb0 fqb0 qb1 fqb1 qb2 fqb2 qb3 fqb3 qb4 fqb4 qb5 fqb5 qb6 fqb6
  generalize ((((((w4.setCell ⟨w.heap.size, 0, none⟩ (.slice A0 l0.length c0)).setCell ⟨w.heap.size, 1, none⟩ (.int .i64 s0)).setCell ⟨w.heap.size, 2, none⟩ (.slice A1 l1.length c1)).setCell ⟨w.heap.size, 3, none⟩ (.int .i64 s1)).setCell ⟨w.heap.size, 4, none⟩ (.int .i64 0)).setCell ⟨w.heap.size, 5, none⟩ (.int .i64 keep)).setCell ⟨w.heap.size, 6, none⟩ (.bool false) = Wd at HS4 ⊢
  clear HS HG_
  have qd0 := (blk_cell HS4.out.d 0).trans rfl; have fqd0 := blk_frozen HS4.out.d 0; have qd1 := (blk_cell HS4.out.d 1).trans rfl; have fqd1 := blk_frozen HS4.out.d 1; have qd2 := (blk_cell HS4.out.d 2).trans rfl; have fqd2 := blk_frozen HS4.out.d 2; have qd3 := (blk_cell HS4.out.d 3).trans rfl; have fqd3 := blk_frozen HS4.out.d 3; have qd4 := (blk_cell HS4.out.d 4).trans rfl; have fqd4 := blk_frozen HS4.out.d 4; have qd5 := (blk_cell HS4.out.d 5).trans rfl; have fqd5 := blk_frozen HS4.out.d 5; have qd6 := (blk_cell HS4.out.d 6).trans rfl; have fqd6 := blk_frozen HS4.out.d 6
  have qz0 := (blk_cell HS4.out.z 0).trans rfl; have fqz0 := blk_frozen HS4.out.z 0; have qz1 := (blk_cell HS4.out.z 1).trans rfl; have fqz1 := blk_frozen HS4.out.z 1; have qz2 := (blk_cell HS4.out.z 2).trans rfl; have fqz2 := blk_frozen HS4.out.z 2; have qz3 := (blk_cell HS4.out.z 3).trans rfl; have fqz3 := blk_frozen HS4.out.z 3; have qz4 := (blk_cell HS4.out.z 4).trans rfl; have fqz4 := blk_frozen HS4.out.z 4; have qz5 := (blk_cell HS4.out.z 5).trans rfl; have fqz5 := blk_frozen HS4.out.z 5; have qz6 := (blk_cell HS4.out.z 6).trans rfl; have fqz6 := blk_frozen HS4.out.z 6
  have qc0 := (blk_cell HS4.out.c 0).trans rfl; have fqc0 := blk_frozen HS4.out.c 0; have qc1 := (blk_cell HS4.out.c 1).trans rfl; have fqc1 := blk_frozen HS4.out.c 1; have qc2 := (blk_cell HS4.out.c 2).trans rfl; have fqc2 := blk_frozen HS4.out.c 2; have qc3 := (blk_cell HS4.out.c 3).trans rfl; have fqc3 := blk_frozen HS4.out.c 3; have qc4 := (blk_cell HS4.out.c 4).trans rfl; have fqc4 := blk_frozen HS4.out.c 4; have qc5 := (blk_cell HS4.out.c 5).trans rfl; have fqc5 := blk_frozen HS4.out.c 5; have qc6 := (blk_cell HS4.out.c 6).trans rfl; have fqc6 := blk_frozen HS4.out.c 6
  have hzz := blk_lt HS4.out.c
  have HGZ := Aside0.mk (blk_lt HS4.out.z)
  have HWZ := Aside0.mk HS4.out.b.size
  go_upto_region 10 with (first
    | ((with_reducible refine gate_dst (N := 47) rfl ?_); refine Kd.R_lit (Kd.int .u8) _ 5 ?hg (N := 47) ?hd (xs := ([] : List Int)) (inner := []) (ok := fun _ => True) (okp := fun _ => True) ?hr ?hp (fun _ hk => hk) trivial (Below.refl _ _) (Nat.le_refl _) (by simp) ?_; (case hd => rfl); (case hg => rfl); (case hr => first | (go_simp; done) | (go_simp; rfl)); (case hp => exact (Reps.none _ _)); intro v1 w1 ho hb _ _; have HO := Aside0.mk ho; have HBa := Aside0.mk hb; have hs5 := HS4.out.below hb; have HS5 := Aside0.mk hs5; have ca2 := (blk_cell hs5.d 2).trans rfl; clear ho hb hs5)
    | ((with_reducible refine gate_builtin (b := .append) (xs := #[.tmp 47, .tmp 52]) rfl ?_); at_builtin; refine Kd.R_append_rows (Kd.int .u8) (w0 := Wd) Wd.heap.size rfl (.tmp 47) (.tmp 52) 22 5 (.int .u8 0) 1 rfl Try.underlying22 info5 rfl (by decide) (by omega) v1 [] l1 _ _ _ (fun _ => True) (fun _ => False) rfl rfl ?aO ?aR (fun _ _ h => h) (fun _ h => h.elim) ?aF ?aB ?aS ?aL ?_; (case aR => exact Kd.C_below (Kd.V_reads' HS1.out).2.2 HS5.out.b); (case aB => exact HBa.out); (case aF => exact (fun _ _ => trivial)); (case aO => exact HO.out); (case aS => exact HBa.out.size); (case aL => have := HLk.out; have := HNb.out; have := HNy.out; (try simp only [List.length_nil]); omega); intro v2 w2 ho hb hg hat; rw [List.nil_append] at ho; have HO2 := Aside0.mk ho; have HBc := Aside0.mk hb; have HS6 := Aside0.mk (HS4.out.below hb); clear ho hb hg hat)
    | ((with_reducible refine gate_builtin (b := .append) (xs := #[.tmp 53, .tmp 54]) rfl ?_); at_builtin; refine Kd.R_append_rows (Kd.int .u8) (w0 := Wd) Wd.heap.size rfl (.tmp 53) (.tmp 54) 22 5 (.int .u8 0) 1 rfl Try.underlying22 info5 rfl (by decide) (by omega) v2 l1 b _ _ _ (fun _ => True) (fun _ => False) rfl rfl ?aO ?aR (fun _ _ h => h) (fun _ h => h.elim) ?aF ?aB ?aS ?aL ?_; (case aR => exact Kd.C_below HRb.out HS6.out.b); (case aB => exact HBc.out); (case aF => exact (fun _ _ => trivial)); (case aO => exact HO2.out); (case aS => exact HBc.out.size); (case aL => have := HLk.out; have := HNb.out; have := HNy.out; (try simp only [List.length_nil]); omega); intro v3 w3 ho hb hg hat; rw [← HYY.out] at ho; obtain ⟨Fv, fc, rfl⟩ := Kd.R_slice ho; have hs7 := HS4.out.below hb; have HO3 := Aside0.mk (dl.mv (i := 2) (x := .slice Fv yy.length fc) (show w.heap.size ≤ w.heap.size + 1 by omega) (fun k_ hk => hk) (Kd.R_mono (Kd.R_bound ho) (fun k_ hk => show w.heap.size + 1 < k_ from by have := hk.2.1; have := blk_lt HS4.out.c; omega))); have HS7 := Aside0.mk (hs7.set 2 (.slice Fv yy.length fc) rfl); have qw0 := (blk_cell hs7.d 0).trans rfl; have fqw0 := blk_frozen hs7.d 0; have qw1 := (blk_cell hs7.d 1).trans rfl; have fqw1 := blk_frozen hs7.d 1; have qw2 := (blk_cell hs7.d 2).trans rfl; have fqw2 := blk_frozen hs7.d 2; have qw3 := (blk_cell hs7.d 3).trans rfl; have fqw3 := blk_frozen hs7.d 3; have qw4 := (blk_cell hs7.d 4).trans rfl; have fqw4 := blk_frozen hs7.d 4; have qw5 := (blk_cell hs7.d 5).trans rfl; have fqw5 := blk_frozen hs7.d 5; have qw6 := (blk_cell hs7.d 6).trans rfl; have fqw6 := blk_frozen hs7.d 6; clear ho hb hg hat hs7))
  clear qd0 fqd0 qd1 fqd1 qd2 fqd2 qd3 fqd3 qd4 fqd4 qd5 fqd5 qd6 fqd6
  clear qz0 fqz0 qz1 fqz1 qz2 fqz2 qz3 fqz3 qz4 fqz4 qz5 fqz5 qz6 fqz6
  clear qc0 fqc0 qc1 fqc1 qc2 fqc2 qc3 fqc3 qc4 fqc4 qc5 fqc5 qc6 fqc6
  clear qw0 fqw0 qw1 fqw1 qw2 fqw2 qw3 fqw3 qw4 fqw4 qw5 fqw5 qw6 fqw6
  generalize w3.setCell ⟨w.heap.size, 2, none⟩ (.slice Fv yy.length fc) = We at HS7 HO3 ⊢
  clear HS4 HO HO2 HS5 HS6 HBa HBc ca2 hzz
  have qe0 := (blk_cell HS7.out.d 0).trans rfl; have fqe0 := blk_frozen HS7.out.d 0; have qe1 := (blk_cell HS7.out.d 1).trans rfl; have fqe1 := blk_frozen HS7.out.d 1; have qe2 := (blk_cell HS7.out.d 2).trans rfl; have fqe2 := blk_frozen HS7.out.d 2; have qe3 := (blk_cell HS7.out.d 3).trans rfl; have fqe3 := blk_frozen HS7.out.d 3; have qe4 := (blk_cell HS7.out.d 4).trans rfl; have fqe4 := blk_frozen HS7.out.d 4; have qe5 := (blk_cell HS7.out.d 5).trans rfl; have fqe5 := blk_frozen HS7.out.d 5; have qe6 := (blk_cell HS7.out.d 6).trans rfl; have fqe6 := blk_frozen HS7.out.d 6
  have qf0 := (blk_cell HS7.out.z 0).trans rfl; have fqf0 := blk_frozen HS7.out.z 0; have qf1 := (blk_cell HS7.out.z 1).trans rfl; have fqf1 := blk_frozen HS7.out.z 1; have qf2 := (blk_cell HS7.out.z 2).trans rfl; have fqf2 := blk_frozen HS7.out.z 2; have qf3 := (blk_cell HS7.out.z 3).trans rfl; have fqf3 := blk_frozen HS7.out.z 3; have qf4 := (blk_cell HS7.out.z 4).trans rfl; have fqf4 := blk_frozen HS7.out.z 4; have qf5 := (blk_cell HS7.out.z 5).trans rfl; have fqf5 := blk_frozen HS7.out.z 5; have qf6 := (blk_cell HS7.out.z 6).trans rfl; have fqf6 := blk_frozen HS7.out.z 6
  have hzx := blk_lt HS7.out.z
  go_wp2_with (go_at_call 102; refine Calls.mono (wristbandref17_Lose.calls _ _ l0 s0 _ _ yy s1 0 keep false keep x1 x2 x3 x4 x5 x6 x7 _ (Kd.C_below (Kd.V_reads' HS0.out).2.2 HS7.out.b) (Kd.V_reads' HS0.out).2.1 (Kd.R_reads' HO3.out).2.2 (Kd.R_reads' HO3.out).2.1 HLo.out) ?_; rintro e w6 ⟨v0, v2, rfl, h0, h2, hb⟩; obtain ⟨E0, m0, rfl⟩ := Kd.R_slice h0; obtain ⟨E2, m2, rfl⟩ := Kd.R_slice h2; have H0 := Aside0.mk (Kd.R_mono h0 (fun _ _ => trivial)); have H2 := Aside0.mk (Kd.R_mono h2 (fun _ _ => trivial)); have hs6 := HS7.out.below hb; have HS8 := Aside0.mk hs6; have qy0 := (blk_cell hs6.z 0).trans rfl; have fqy0 := blk_frozen hs6.z 0; have qy1 := (blk_cell hs6.z 1).trans rfl; have fqy1 := blk_frozen hs6.z 1; have qy2 := (blk_cell hs6.z 2).trans rfl; have fqy2 := blk_frozen hs6.z 2; have qy3 := (blk_cell hs6.z 3).trans rfl; have fqy3 := blk_frozen hs6.z 3; have qy4 := (blk_cell hs6.z 4).trans rfl; have fqy4 := blk_frozen hs6.z 4; have qy5 := (blk_cell hs6.z 5).trans rfl; have fqy5 := blk_frozen hs6.z 5; have qy6 := (blk_cell hs6.z 6).trans rfl; have fqy6 := blk_frozen hs6.z 6; have hzy := blk_lt hs6.c; clear h0 h2 hb hs6)
  have HGZ := Aside0.mk (blk_lt HS7.out.z)
  have HWZ := Aside0.mk HS7.out.b.size
  have hle : w.heap.size ≤ w.heap.size + 1 := by omega
  have hfin := fun a b c d e f x => below_set (j := 6) (v := x) (below_set (j := 5) (v := f) (below_set (j := 4) (v := e) (below_set (j := 3) (v := d) (below_set (j := 2) (v := c) (below_set (j := 1) (v := b) (below_set (j := 0) (v := a) HS8.out.b hle) hle) hle) hle) hle) hle) hle
  refine bodyPost_ret (results_ct rfl _ _ (w.heap.size + 1) 74 _ (0, 0) _ rfl (sp.set7 HS8.out.z) Try.underlying74 rfl (by kernel_rfl)) rfl ?_
  exact ⟨_, _, rfl, sp.Row.fin (W := We) _ _ _ _ _ _ _ HS0.out HS1.out (.inr (.inr H0.out)) HGZ.out HWZ.out (hfin _ _ _ _ _ _ _), sp.Row.fin (W := We) _ _ _ _ _ _ _ HS0.out HS1.out (.inr (.inr H2.out)) HGZ.out HWZ.out (hfin _ _ _ _ _ _ _), hfin _ _ _ _ _ _ _⟩
theorem rf.st61 {A0 : Option Addr} {c0 : Nat} {l0 : List Int} {s0 : Int} {A1 : Option Addr} {c1 : Nat} {l1 : List Int} {s1 fuse keep k : Int} {down : Bool} {w : World} {P0 P2 : Nat → Prop} (Bb : Option Addr) (cb : Nat) (b : List Int) (hrb : Kd.C (Kd.int .u8) w Bb b.length b) (hcb : b.length ≤ cb) (hnb : b.length < 140737488355328) (hs0 : Kd.V (Kd.int .u8) 5 w w.heap.size P0 (.slice A0 l0.length c0) l0) (hs1 : Kd.V (Kd.int .u8) 5 w w.heap.size P2 (.slice A1 l1.length c1) l1) (r : List Int × Int × List Int × Int × Int × Int × Bool × Int) (h : rp.f (dk.right l0.length s0 l1.length s1 fuse keep && (decide (0 ≤ k) && decide (k < 2))) (if 0 ≤ k ∧ k < 2 then decide (1048576 < (if k = 0 then l0 else l1).length + b.length) else false) down l0 s0 l1 s1 fuse keep (some (if k = 0 then (l0 ++ (if keep < (b.length : Int) then b.take keep.toNat else b), s0, l1, s1) else (l0, s0, l1 ++ (if keep < (b.length : Int) then b.take keep.toNat else b), s1))) (some (if k = 0 then (l0 ++ b, s0, l1, s1) else (l0, s0, l1 ++ b, s1))) = some r) :
    Calls Try.prog 61 #[.agg #[.slice A0 l0.length c0, .int .i64 s0, .slice A1 l1.length c1, .int .i64 s1, .int .i64 fuse, .int .i64 keep, .bool down], .int .i64 k, .slice Bb b.length cb] w (fun e w' => ∃ v0_ v2_ : Value, e = .returned (.tuple #[.agg #[v0_, .int .i64 r.2.1, v2_, .int .i64 r.2.2.2.1, .int .i64 r.2.2.2.2.1, .int .i64 r.2.2.2.2.2.1, .bool r.2.2.2.2.2.2.1], .int .i64 r.2.2.2.2.2.2.2]) ∧ Kd.V (Kd.int .u8) 5 w' w.heap.size (fun k_ => ((P0 k_ ∨ P2 k_) ∨ w.heap.size ≤ k_)) v0_ r.1 ∧ Kd.V (Kd.int .u8) 5 w' w.heap.size (fun k_ => ((P0 k_ ∨ P2 k_) ∨ w.heap.size ≤ k_)) v2_ r.2.2.1 ∧ Below w.heap.size w w') := by
  unfold rp.f at h
  cases hok : (dk.right l0.length s0 l1.length s1 fuse keep && (decide (0 ≤ k) && decide (k < 2))) with
  | false =>
    rw [hok, if_neg (by decide)] at h
    exact rf.err61 Bb cb b 1 rfl rfl hs0 hs1 (rf.bg hs0 hs1 false hok rfl) r (Option.some.inj h).symm
  | true =>
    obtain ⟨hri, hk⟩ := rf.k01 hok
    rw [hok, if_pos rfl] at h
    cases down with
    | true =>
      rw [if_pos rfl] at h
      exact rf.err61 Bb cb b 14 rfl rfl hs0 hs1 (rf.bg hs0 hs1 true hok rfl) r (Option.some.inj h).symm
    | false =>
      rw [if_neg (show ¬ (false : Bool) = true by decide)] at h
      have hkeep : 0 ≤ keep := by unfold dk.right at hri; simp only [Bool.and_eq_true, decide_eq_true_eq] at hri; exact hri.2.2.2
      have hl0 : l0.length ≤ 1048576 := by unfold dk.right dk.ok at hri; simp only [Bool.and_eq_true, decide_eq_true_eq] at hri; exact hri.1.2.2
      have hl1 : l1.length ≤ 1048576 := by unfold dk.right dk.ok at hri; simp only [Bool.and_eq_true, decide_eq_true_eq] at hri; exact hri.2.1.2.2
      obtain ⟨fu, hfu⟩ : ∃ f : Bool, f = (if 0 ≤ k ∧ k < 2 then decide (1048576 < (if k = 0 then l0 else l1).length + b.length) else false) := ⟨_, rfl⟩
      rw [← hfu] at h
      cases fu with
      | true =>
        rw [if_pos rfl] at h
        obtain ⟨f9, g9, hf⟩ : ∃ (f9 : Int) (g9 : Bool), bg.f true false fuse = (f9, g9, 0) := by
          unfold bg.f
          rw [if_pos rfl, if_neg (by decide)]
          by_cases e0 : fuse = 0
          · rw [if_pos e0]; exact ⟨_, _, rfl⟩
          · rw [if_neg e0]; exact ⟨_, _, rfl⟩
        rcases hk with rfl | rfl
        · rw [if_pos (by omega), if_pos rfl] at hfu
          exact rf.full61_0 Bb cb b g9 hs0 hs1 (rf.bg hs0 hs1 true hok hf) hl0 hnb (of_decide_eq_true hfu.symm) r (Option.some.inj h).symm
        · rw [if_pos (by omega), if_neg (by omega)] at hfu
          exact rf.full61_1 Bb cb b g9 hs0 hs1 (rf.bg hs0 hs1 true hok hf) hl1 hnb (of_decide_eq_true hfu.symm) r (Option.some.inj h).symm
      | false =>
        rw [if_neg (show ¬ (false : Bool) = true by decide)] at h
        have hnf : (k = 0 → ¬ 1048576 < l0.length + b.length) ∧ (k = 1 → ¬ 1048576 < l1.length + b.length) := by
          rcases hk with rfl | rfl
          · rw [if_pos (by omega), if_pos rfl] at hfu
            exact ⟨fun _ => of_decide_eq_false hfu.symm, fun h => by omega⟩
          · rw [if_pos (by omega), if_neg (by omega)] at hfu
            exact ⟨fun h => by omega, fun _ => of_decide_eq_false hfu.symm⟩
        by_cases e0 : fuse = 0
        · subst e0
          rw [if_pos rfl] at h
          rcases hk with rfl | rfl
          · simp only [Option.bind_some, if_true] at h
            by_cases hkb : keep < (b.length : Int)
            · rw [if_pos hkb] at h
              exact rf.goes61_0c (down := false) (fuse := 0) (f9 := 0) Bb cb b hs0 hs1 (rf.bg hs0 hs1 true hok rfl) hrb hcb hnb hl0 (hnf.1 rfl) hkeep hkb _ rfl _ rfl r h
            · rw [if_neg hkb] at h
              exact rf.goes61_0 (down := false) (fuse := 0) (f9 := 0) Bb cb b hs0 hs1 (rf.bg hs0 hs1 true hok rfl) hrb hcb hnb hl0 (hnf.1 rfl) hkeep hkb _ rfl r h
          · simp only [Option.bind_some] at h
            by_cases hkb : keep < (b.length : Int)
            · rw [if_pos hkb] at h
              exact rf.goes61_1c (down := false) (fuse := 0) (f9 := 0) Bb cb b hs0 hs1 (rf.bg hs0 hs1 true hok rfl) hrb hcb hnb hl1 (hnf.2 rfl) hkeep hkb _ rfl _ rfl r h
            · rw [if_neg hkb] at h
              exact rf.goes61_1 (down := false) (fuse := 0) (f9 := 0) Bb cb b hs0 hs1 (rf.bg hs0 hs1 true hok rfl) hrb hcb hnb hl1 (hnf.2 rfl) hkeep hkb _ rfl r h
        · have hf : bg.f true false fuse = ((if 0 < fuse then wrap64 (fuse - 1) else fuse), false, 0) := by unfold bg.f; rw [if_pos rfl, if_neg (by decide), if_neg e0]
          rw [if_neg e0] at h
          rcases hk with rfl | rfl
          · simp only [Option.bind_some, if_true] at h
            exact rf.done61_0 Bb cb b hs0 hs1 (rf.bg hs0 hs1 true hok hf) hrb hcb hnb hl0 (hnf.1 rfl) _ rfl r (Option.some.inj h).symm
          · simp only [Option.bind_some] at h
            exact rf.done61_1 Bb cb b hs0 hs1 (rf.bg hs0 hs1 true hok hf) hrb hcb hnb hl1 (hnf.2 rfl) _ rfl r (Option.some.inj h).symm
def wristbandref17_Write.f (l0_0 : List Int) (a0_1 : Int) (l0_2 : List Int) (a0_3 : Int) (a0_4 : Int) (a0_5 : Int) (a0_6 : Bool) (a1 : Int) (l2 : List Int) : Option (List Int × Int × List Int × Int × Int × Int × Bool × Int) :=
  if l2.length < 140737488355328 then rp.f (dk.right l0_0.length a0_1 l0_2.length a0_3 a0_4 a0_5 && (decide (0 ≤ a1) && decide (a1 < 2))) (if 0 ≤ a1 ∧ a1 < 2 then decide (1048576 < (if a1 = 0 then l0_0 else l0_2).length + l2.length) else false) a0_6 l0_0 a0_1 l0_2 a0_3 a0_4 a0_5 (some (if a1 = 0 then (l0_0 ++ (if a0_5 < (l2.length : Int) then l2.take a0_5.toNat else l2), a0_1, l0_2, a0_3) else (l0_0, a0_1, l0_2 ++ (if a0_5 < (l2.length : Int) then l2.take a0_5.toNat else l2), a0_3))) (some (if a1 = 0 then (l0_0 ++ l2, a0_1, l0_2, a0_3) else (l0_0, a0_1, l0_2 ++ l2, a0_3))) else none
theorem wristbandref17_Write.calls (P0_0_ : Nat → Prop) (A0_0 : Option Addr) (c0_0 : Nat) (l0_0 : List Int) (a0_1 : Int) (P0_2_ : Nat → Prop) (A0_2 : Option Addr) (c0_2 : Nat) (l0_2 : List Int) (a0_3 : Int) (a0_4 : Int) (a0_5 : Int) (a0_6 : Bool) (a1 : Int) (A2 : Option Addr) (c2 : Nat) (l2 : List Int) (r1 : List Int) (r2 : Int) (r3 : List Int) (r4 : Int) (r5 : Int) (r6 : Int) (r7 : Bool) (r8 : Int) (w : World) (hs0_0 : Kd.V (Kd.int .u8) 5 w w.heap.size (fun k_ => P0_0_ k_) (.slice A0_0 l0_0.length c0_0) l0_0) (hs0_2 : Kd.V (Kd.int .u8) 5 w w.heap.size (fun k_ => P0_2_ k_) (.slice A0_2 l0_2.length c0_2) l0_2) (hr2 : Kd.C (Kd.int .u8) w A2 l2.length l2) (hc2 : l2.length ≤ c2) (h : wristbandref17_Write.f l0_0 a0_1 l0_2 a0_3 a0_4 a0_5 a0_6 a1 l2 = some (r1, r2, r3, r4, r5, r6, r7, r8)) :
    Calls Try.prog 61 #[.agg #[.slice A0_0 l0_0.length c0_0, .int .i64 a0_1, .slice A0_2 l0_2.length c0_2, .int .i64 a0_3, .int .i64 a0_4, .int .i64 a0_5, .bool a0_6], .int .i64 a1, .slice A2 l2.length c2] w fun e w' => ∃ v0_ v2_ : Value, e = .returned (.tuple #[.agg #[v0_, .int .i64 r2, v2_, .int .i64 r4, .int .i64 r5, .int .i64 r6, .bool r7], .int .i64 r8]) ∧ Kd.V (Kd.int .u8) 5 w' w.heap.size (fun k_ => ((P0_0_ k_ ∨ P0_2_ k_) ∨ w.heap.size ≤ k_)) v0_ r1 ∧ Kd.V (Kd.int .u8) 5 w' w.heap.size (fun k_ => ((P0_0_ k_ ∨ P0_2_ k_) ∨ w.heap.size ≤ k_)) v2_ r3 ∧ Below w.heap.size w w' := by
  unfold wristbandref17_Write.f at h
  by_cases hnb : l2.length < 140737488355328
  · rw [if_pos hnb] at h
    exact rf.st61 A2 c2 l2 hr2 hc2 hnb hs0_0 hs0_2 _ h
  · rw [if_neg hnb] at h; cases h

/-! ### wristbandref17_Same: function 62 -/
def wristbandref17_Same.l0 : Nat → Int → List Int → Int → List Int → Int → Int → Int → Bool → List Int → Int → List Int → Int → Int → Int → Bool → Option (Bool)
  | 0, _, _, _, _, _, _, _, _, _, _, _, _, _, _, _ => none
  | k + 1, x5, x138000, x138001, x138002, x138003, x138004, x138005, x138006, x139000, x139001, x139002, x139003, x139004, x139005, x139006 => if x5 < 2 then (if x5 = 0 then (if x138001 = x139001 then (if (strOfNums x138000).toList = (strOfNums x139000).toList then (wristbandref17_Same.l0 k (wrap64 (x5 + 1)) x138000 x138001 x138002 x138003 x138004 x138005 x138006 x139000 x139001 x139002 x139003 x139004 x139005 x139006) else (some false)) else (some false)) else (if x5 = 1 then (if x138003 = x139003 then (if (strOfNums x138002).toList = (strOfNums x139002).toList then (wristbandref17_Same.l0 k (wrap64 (x5 + 1)) x138000 x138001 x138002 x138003 x138004 x138005 x138006 x139000 x139001 x139002 x139003 x139004 x139005 x139006) else (some false)) else (some false)) else (none))) else (if x138004 = x139004 then (if x138005 = x139005 then (some (x138006 == x139006)) else (some false)) else (some false))
def wristbandref17_Same.f (k : Nat) (l0_0 : List Int) (a0_1 : Int) (l0_2 : List Int) (a0_3 : Int) (a0_4 : Int) (a0_5 : Int) (a0_6 : Bool) (l1_0 : List Int) (a1_1 : Int) (l1_2 : List Int) (a1_3 : Int) (a1_4 : Int) (a1_5 : Int) (a1_6 : Bool) : Option (Bool) := wristbandref17_Same.l0 k 0 l0_0 a0_1 l0_2 a0_3 a0_4 a0_5 a0_6 l1_0 a1_1 l1_2 a1_3 a1_4 a1_5 a1_6
theorem wristbandref17_Same.mono_l : ∀ k, (∀ y0 y1 y2 y3 y4 y5 y6 y7 y8 y9 y10 y11 y12 y13 y14, LeO (wristbandref17_Same.l0 k y0 y1 y2 y3 y4 y5 y6 y7 y8 y9 y10 y11 y12 y13 y14) (wristbandref17_Same.l0 (k + 1) y0 y1 y2 y3 y4 y5 y6 y7 y8 y9 y10 y11 y12 y13 y14))
  | 0 => fun _ _ _ _ _ _ _ _ _ _ _ _ _ _ _ r h => by simp [wristbandref17_Same.l0] at h
  | k + 1 => by
   have ih0 := wristbandref17_Same.mono_l k
   ·intro y0 y1 y2 y3 y4 y5 y6 y7 y8 y9 y10 y11 y12 y13 y14
    unfold wristbandref17_Same.l0
    repeat' first
    | (with_reducible exact ih0 _ _ _ _ _ _ _ _ _ _ _ _ _ _ _)
    | (with_reducible exact LeO.refl _)
    | (with_reducible exact LeO.none _)
    | (with_reducible refine LeO.ite ?_ ?_)
    | (with_reducible refine LeO.bind ?_ (fun _ => ?_))
    | exact ih0 _ _ _ _ _ _ _ _ _ _ _ _ _ _ _
    | exact LeO.none _
    | refine LeO.ite ?_ ?_
    | refine LeO.bind ?_ (fun _ => ?_)
theorem wristbandref17_Same.mono : ∀ a0 a1 a2 a3 a4 a5 a6 a7 a8 a9 a10 a11 a12 a13 k, LeO (wristbandref17_Same.f k a0 a1 a2 a3 a4 a5 a6 a7 a8 a9 a10 a11 a12 a13) (wristbandref17_Same.f (k + 1) a0 a1 a2 a3 a4 a5 a6 a7 a8 a9 a10 a11 a12 a13) := by
  intro a0 a1 a2 a3 a4 a5 a6 a7 a8 a9 a10 a11 a12 a13 k; have ih0 := wristbandref17_Same.mono_l k
  unfold wristbandref17_Same.f
  repeat' first
    | (with_reducible exact ih0 _ _ _ _ _ _ _ _ _ _ _ _ _ _ _)
    | (with_reducible exact LeO.refl _)
    | (with_reducible exact LeO.none _)
    | (with_reducible refine LeO.ite ?_ ?_)
    | (with_reducible refine LeO.bind ?_ (fun _ => ?_))
    | exact ih0 _ _ _ _ _ _ _ _ _ _ _ _ _ _ _
    | exact LeO.none _
    | refine LeO.ite ?_ ?_
    | refine LeO.bind ?_ (fun _ => ?_)
set_option maxHeartbeats 8000000 in
set_option maxRecDepth 100000 in
theorem wristbandref17_Same.calls (k : Nat) (A0_0 : Option Addr) (c0_0 : Nat) (l0_0 : List Int) (a0_1 : Int) (A0_2 : Option Addr) (c0_2 : Nat) (l0_2 : List Int) (a0_3 : Int) (a0_4 : Int) (a0_5 : Int) (a0_6 : Bool) (A1_0 : Option Addr) (c1_0 : Nat) (l1_0 : List Int) (a1_1 : Int) (A1_2 : Option Addr) (c1_2 : Nat) (l1_2 : List Int) (a1_3 : Int) (a1_4 : Int) (a1_5 : Int) (a1_6 : Bool) (r : Bool) (w : World) (hr0_0 : Kd.C (Kd.int .u8) w A0_0 l0_0.length l0_0) (hc0_0 : l0_0.length ≤ c0_0) (hr0_2 : Kd.C (Kd.int .u8) w A0_2 l0_2.length l0_2) (hc0_2 : l0_2.length ≤ c0_2) (hr1_0 : Kd.C (Kd.int .u8) w A1_0 l1_0.length l1_0) (hc1_0 : l1_0.length ≤ c1_0) (hr1_2 : Kd.C (Kd.int .u8) w A1_2 l1_2.length l1_2) (hc1_2 : l1_2.length ≤ c1_2) (h : wristbandref17_Same.f k l0_0 a0_1 l0_2 a0_3 a0_4 a0_5 a0_6 l1_0 a1_1 l1_2 a1_3 a1_4 a1_5 a1_6 = some r) :
   Calls Try.prog 62 #[.agg #[.slice A0_0 l0_0.length c0_0, .int .i64 a0_1, .slice A0_2 l0_2.length c0_2, .int .i64 a0_3, .int .i64 a0_4, .int .i64 a0_5, .bool a0_6], .agg #[.slice A1_0 l1_0.length c1_0, .int .i64 a1_1, .slice A1_2 l1_2.length c1_2, .int .i64 a1_3, .int .i64 a1_4, .int .i64 a1_5, .bool a1_6]] w fun e w' => e = .returned (.bool r) ∧ Below w.heap.size w w' := by
  have hu74 := Try.underlying74
  have HR0_0 := aM hr0_0; have HC0_0 := aM hc0_0; clear hr0_0 hc0_0; have HR0_2 := aM hr0_2; have HC0_2 := aM hc0_2; clear hr0_2 hc0_2; have HR1_0 := aM hr1_0; have HC1_0 := aM hc1_0; clear hr1_0 hc1_0; have HR1_2 := aM hr1_2; have HC1_2 := aM hc1_2; clear hr1_2 hc1_2; have HB := aM (Below.refl w.heap.size w); have H : (wristbandref17_Same.l0 k 0 l0_0 a0_1 l0_2 a0_3 a0_4 a0_5 a0_6 l1_0 a1_1 l1_2 a1_3 a1_4 a1_5 a1_6) = some r := h
  clear h; have H' := aM H
  clear H; go_enter Try.func62, Try.ntmps62
  go_wp2_with (first | ((with_reducible refine gate_dst (N := 2) rfl ?_); refine box_event ?hg (N := 2) ?hd (cs := #[.slice A0_0 l0_0.length c0_0, .int .i64 a0_1, .slice A0_2 l0_2.length c0_2, .int .i64 a0_3, .int .i64 a0_4, .int .i64 a0_5, .bool a0_6]) (t := 74) ?hr ?_; (case hd => rfl); (case hg => rfl); (case hr => first | (go_simp; done) | (go_simp; rfl)); intro gb137 hg w3 hbox hb; have n0_ := sB HB hb; have n1_ := aM (hbox); have n2_ := aM ((by rw [hg]; exact (below_size (sG HB)) : w.heap.size ≤ gb137)); have n3_ := aM ((by rw [hg]; exact (below_size (sG HB)) : w.heap.size ≤ gb137)); clear HB; have HB := n0_; have BK137 := n1_; have GW137 := n2_; have GE137 := n3_; clear n0_ n1_ n2_ n3_; clear hb hbox hg) | ((with_reducible refine gate_dst (N := 3) rfl ?_); refine box_event ?hg (N := 3) ?hd (cs := #[.slice A1_0 l1_0.length c1_0, .int .i64 a1_1, .slice A1_2 l1_2.length c1_2, .int .i64 a1_3, .int .i64 a1_4, .int .i64 a1_5, .bool a1_6]) (t := 74) ?hr ?_; (case hd => rfl); (case hg => rfl); (case hr => first | (go_simp; done) | (go_simp; rfl)); intro gb138 hg w4 hbox hb; have n0_ := bB BK137 hb; have n1_ := sB HB hb; have n2_ := aM (hbox); have n3_ := aM ((by rw [hg]; exact (below_size (sG HB)) : w.heap.size ≤ gb138)); have n4_ := aM ((by rw [hg]; exact (below_size (sG HB)) : w.heap.size ≤ gb138)); have n5_ := aM ((by rw [hg]; exact Nat.ne_of_lt (ltB BK137) : gb137 ≠ gb138)); have n6_ := aM ((by rw [hg]; exact Nat.ne_of_gt (ltB BK137) : gb138 ≠ gb137)); clear BK137; clear HB; have BK137 := n0_; have HB := n1_; have BK138 := n2_; have GW138 := n3_; have GE138 := n4_; have NB137_138 := n5_; have NB138_137 := n6_; clear n0_ n1_ n2_ n3_ n4_ n5_ n6_; clear hb hbox hg))
  repeat (go_quiet (fail); try go_wp2_with (first | ((with_reducible refine gate_dst (N := 2) rfl ?_); refine box_event ?hg (N := 2) ?hd (cs := #[.slice A0_0 l0_0.length c0_0, .int .i64 a0_1, .slice A0_2 l0_2.length c0_2, .int .i64 a0_3, .int .i64 a0_4, .int .i64 a0_5, .bool a0_6]) (t := 74) ?hr ?_; (case hd => rfl); (case hg => rfl); (case hr => first | (go_simp; done) | (go_simp; rfl)); intro gb137 hg w3 hbox hb; have n0_ := sB HB hb; have n1_ := aM (hbox); have n2_ := aM ((by rw [hg]; exact (below_size (sG HB)) : w.heap.size ≤ gb137)); have n3_ := aM ((by rw [hg]; exact (below_size (sG HB)) : w.heap.size ≤ gb137)); clear HB; have HB := n0_; have BK137 := n1_; have GW137 := n2_; have GE137 := n3_; clear n0_ n1_ n2_ n3_; clear hb hbox hg) | ((with_reducible refine gate_dst (N := 3) rfl ?_); refine box_event ?hg (N := 3) ?hd (cs := #[.slice A1_0 l1_0.length c1_0, .int .i64 a1_1, .slice A1_2 l1_2.length c1_2, .int .i64 a1_3, .int .i64 a1_4, .int .i64 a1_5, .bool a1_6]) (t := 74) ?hr ?_; (case hd => rfl); (case hg => rfl); (case hr => first | (go_simp; done) | (go_simp; rfl)); intro gb138 hg w4 hbox hb; have n0_ := bB BK137 hb; have n1_ := sB HB hb; have n2_ := aM (hbox); have n3_ := aM ((by rw [hg]; exact (below_size (sG HB)) : w.heap.size ≤ gb138)); have n4_ := aM ((by rw [hg]; exact (below_size (sG HB)) : w.heap.size ≤ gb138)); have n5_ := aM ((by rw [hg]; exact Nat.ne_of_lt (ltB BK137) : gb137 ≠ gb138)); have n6_ := aM ((by rw [hg]; exact Nat.ne_of_gt (ltB BK137) : gb138 ≠ gb137)); clear BK137; clear HB; have BK137 := n0_; have HB := n1_; have BK138 := n2_; have GW138 := n3_; have GE138 := n4_; have NB137_138 := n5_; have NB138_137 := n6_; clear n0_ n1_ n2_ n3_ n4_ n5_ n6_; clear hb hbox hg)))
  go_loopg [5] k (fun kq v5 w' => ∃ (x5_1 : Int), v5 = .int .i64 x5_1 ∧ Aside0 (wristbandref17_Same.l0 kq x5_1 l0_0 a0_1 l0_2 a0_3 a0_4 a0_5 a0_6 l1_0 a1_1 l1_2 a1_3 a1_4 a1_5 a1_6 = some r) ∧ Aside0 (kq ≤ k) ∧ Aside0 (w'.heap[gb137]? = some (.cells #[(.slice A0_0 l0_0.length c0_0), .int .i64 a0_1, (.slice A0_2 l0_2.length c0_2), .int .i64 a0_3, .int .i64 a0_4, .int .i64 a0_5, .bool a0_6] 74 (0, 0))) ∧ Aside0 (w'.heap[gb138]? = some (.cells #[(.slice A1_0 l1_0.length c1_0), .int .i64 a1_1, (.slice A1_2 l1_2.length c1_2), .int .i64 a1_3, .int .i64 a1_4, .int .i64 a1_5, .bool a1_6] 74 (0, 0))) ∧ Aside0 (Below w.heap.size w w'))
  case atStart => exact ⟨(0), (by first | rfl | (simp; done) | (simp [*]; done)), H', ⟨Nat.le_refl _⟩, ⟨gB BK137⟩, ⟨gB BK138⟩, ⟨sG HB⟩⟩
  case round =>
   clear H'; (try clear c1); (try clear p2); obtain ⟨x5_1, rfl, HA, HK1, BK137, BK138, HB⟩ := hrel
   cases gk with
   | zero => exact absurd HA.out (by simp [wristbandref17_Same.l0])
   | succ k1 =>
    have H := HA.out
    clear HA; simp only [wristbandref17_Same.l0] at H
    by_cases c5 : x5_1 < 2
    ·rw [if_pos c5] at H
     have c5b0 : decide (x5_1 < 2) = true := decide_eq_true c5
     clear c5; by_cases c6 : x5_1 = 0
     ·rw [if_pos c6] at H
      have c6b0 : (x5_1 == 0) = true := beq_iff_eq.mpr c6
      have c6b1 : (x5_1 != 0) = false := bne_eq_false_iff_eq.mpr c6
      clear c6; by_cases c7 : a0_1 = a1_1
      ·rw [if_pos c7] at H
       have c7b0 : (a0_1 == a1_1) = true := beq_iff_eq.mpr c7
       have c7b1 : (a0_1 != a1_1) = false := bne_eq_false_iff_eq.mpr c7
       clear c7; by_cases c8 : (strOfNums l0_0).toList = (strOfNums l1_0).toList
       ·rw [if_pos c8] at H
        have c8b0 : ((strOfNums l0_0).toList == (strOfNums l1_0).toList) = true := beq_iff_eq.mpr c8
        have c8b1 : ((strOfNums l0_0).toList != (strOfNums l1_0).toList) = false := bne_eq_false_iff_eq.mpr c8
        clear c8; have H' := aM H
        clear H; have hia9 : ∀ W : World, (Instr.indexAt 72 (.pointer (some ⟨gb137, 0, none⟩)) (.int .i64 x5_1)).run Try.prog W = .ok (.pointer (some ⟨gb137, 0, none⟩)) W := by have e_ : x5_1 = 0 := (by first | assumption | exact beq_iff_eq.mp (show (x5_1 == 0) = true by assumption)); intro W; rw [e_]; first | (go_simp; done) | (go_simp; rfl)
        have hnb10 := NB137_138.out
        have hnc10 := NB138_137.out
        have hcz11_0 := cB BK137 0 (.slice A0_0 l0_0.length c0_0) rfl; have hcz11_1 := cB BK137 1 (.int .i64 a0_1) rfl; have hcz11_2 := cB BK137 2 (.slice A0_2 l0_2.length c0_2) rfl; have hcz11_3 := cB BK137 3 (.int .i64 a0_3) rfl; have hcz11_4 := cB BK137 4 (.int .i64 a0_4) rfl; have hcz11_5 := cB BK137 5 (.int .i64 a0_5) rfl; have hcz11_6 := cB BK137 6 (.bool a0_6) rfl; have hfz11_0 := blk_frozen BK137.out 0; have hfz11_1 := blk_frozen BK137.out 1; have hfz11_2 := blk_frozen BK137.out 2; have hfz11_3 := blk_frozen BK137.out 3; have hfz11_4 := blk_frozen BK137.out 4; have hfz11_5 := blk_frozen BK137.out 5; have hfz11_6 := blk_frozen BK137.out 6; have hia12 : ∀ W : World, (Instr.indexAt 72 (.pointer (some ⟨gb138, 0, none⟩)) (.int .i64 x5_1)).run Try.prog W = .ok (.pointer (some ⟨gb138, 0, none⟩)) W := by have e_ : x5_1 = 0 := (by first | assumption | exact beq_iff_eq.mp (show (x5_1 == 0) = true by assumption)); intro W; rw [e_]; first | (go_simp; done) | (go_simp; rfl)
        have hcz13_0 := cB BK138 0 (.slice A1_0 l1_0.length c1_0) rfl; have hcz13_1 := cB BK138 1 (.int .i64 a1_1) rfl; have hcz13_2 := cB BK138 2 (.slice A1_2 l1_2.length c1_2) rfl; have hcz13_3 := cB BK138 3 (.int .i64 a1_3) rfl; have hcz13_4 := cB BK138 4 (.int .i64 a1_4) rfl; have hcz13_5 := cB BK138 5 (.int .i64 a1_5) rfl; have hcz13_6 := cB BK138 6 (.bool a1_6) rfl; have hfz13_0 := blk_frozen BK138.out 0; have hfz13_1 := blk_frozen BK138.out 1; have hfz13_2 := blk_frozen BK138.out 2; have hfz13_3 := blk_frozen BK138.out 3; have hfz13_4 := blk_frozen BK138.out 4; have hfz13_5 := blk_frozen BK138.out 5; have hfz13_6 := blk_frozen BK138.out 6; have hia14 : ∀ W : World, (Instr.indexAt 72 (.pointer (some ⟨gb137, 0, none⟩)) (.int .i64 x5_1)).run Try.prog W = .ok (.pointer (some ⟨gb137, 0, none⟩)) W := by have e_ : x5_1 = 0 := (by first | assumption | exact beq_iff_eq.mp (show (x5_1 == 0) = true by assumption)); intro W; rw [e_]; first | (go_simp; done) | (go_simp; rfl)
        have hcv15 := Kd.C_string (P := Try.prog) (A := A0_0) (c := c0_0) Try.underlying22 Try.underlying5 Try.underlying9 (Kd.C_below HR0_0.out HB.out)
        have hcv15q := fun n_ : Nat => Kd.C_string (P := Try.prog) (A := A0_0) (c := c0_0) Try.underlying22 Try.underlying5 Try.underlying9 (Kd.C_drewN (Kd.C_below HR0_0.out HB.out) n_)
        have hia16 : ∀ W : World, (Instr.indexAt 72 (.pointer (some ⟨gb138, 0, none⟩)) (.int .i64 x5_1)).run Try.prog W = .ok (.pointer (some ⟨gb138, 0, none⟩)) W := by have e_ : x5_1 = 0 := (by first | assumption | exact beq_iff_eq.mp (show (x5_1 == 0) = true by assumption)); intro W; rw [e_]; first | (go_simp; done) | (go_simp; rfl)
        have hcv17 := Kd.C_string (P := Try.prog) (A := A1_0) (c := c1_0) Try.underlying22 Try.underlying5 Try.underlying9 (Kd.C_below HR1_0.out HB.out)
        have hcv17q := fun n_ : Nat => Kd.C_string (P := Try.prog) (A := A1_0) (c := c1_0) Try.underlying22 Try.underlying5 Try.underlying9 (Kd.C_drewN (Kd.C_below HR1_0.out HB.out) n_)
        go_wp2
        repeat (go_quiet (fail); try go_wp2)
        go_roundg k1
        case measure => have := HK1.out; omega
        case rel => exact ⟨(wrap64 (x5_1 + 1)), (by first | rfl | (simp; done) | (simp [*]; done)), H', ⟨by have := HK1.out; omega⟩, ⟨gB BK137⟩, ⟨gB BK138⟩, ⟨sG HB⟩⟩
       ·rw [if_neg c8] at H
        have c8b0 : ((strOfNums l0_0).toList == (strOfNums l1_0).toList) = false := beq_eq_false_iff_ne.mpr c8
        have c8b1 : ((strOfNums l0_0).toList != (strOfNums l1_0).toList) = true := bne_iff_ne.mpr c8
        obtain rfl := Option.some.inj H
        have hia18 : ∀ W : World, (Instr.indexAt 72 (.pointer (some ⟨gb137, 0, none⟩)) (.int .i64 x5_1)).run Try.prog W = .ok (.pointer (some ⟨gb137, 0, none⟩)) W := by have e_ : x5_1 = 0 := (by first | assumption | exact beq_iff_eq.mp (show (x5_1 == 0) = true by assumption)); intro W; rw [e_]; first | (go_simp; done) | (go_simp; rfl)
        have hnb19 := NB137_138.out
        have hnc19 := NB138_137.out
        have hcz20_0 := cB BK137 0 (.slice A0_0 l0_0.length c0_0) rfl; have hcz20_1 := cB BK137 1 (.int .i64 a0_1) rfl; have hcz20_2 := cB BK137 2 (.slice A0_2 l0_2.length c0_2) rfl; have hcz20_3 := cB BK137 3 (.int .i64 a0_3) rfl; have hcz20_4 := cB BK137 4 (.int .i64 a0_4) rfl; have hcz20_5 := cB BK137 5 (.int .i64 a0_5) rfl; have hcz20_6 := cB BK137 6 (.bool a0_6) rfl; have hfz20_0 := blk_frozen BK137.out 0; have hfz20_1 := blk_frozen BK137.out 1; have hfz20_2 := blk_frozen BK137.out 2; have hfz20_3 := blk_frozen BK137.out 3; have hfz20_4 := blk_frozen BK137.out 4; have hfz20_5 := blk_frozen BK137.out 5; have hfz20_6 := blk_frozen BK137.out 6; have hia21 : ∀ W : World, (Instr.indexAt 72 (.pointer (some ⟨gb138, 0, none⟩)) (.int .i64 x5_1)).run Try.prog W = .ok (.pointer (some ⟨gb138, 0, none⟩)) W := by have e_ : x5_1 = 0 := (by first | assumption | exact beq_iff_eq.mp (show (x5_1 == 0) = true by assumption)); intro W; rw [e_]; first | (go_simp; done) | (go_simp; rfl)
        have hcz22_0 := cB BK138 0 (.slice A1_0 l1_0.length c1_0) rfl; have hcz22_1 := cB BK138 1 (.int .i64 a1_1) rfl; have hcz22_2 := cB BK138 2 (.slice A1_2 l1_2.length c1_2) rfl; have hcz22_3 := cB BK138 3 (.int .i64 a1_3) rfl; have hcz22_4 := cB BK138 4 (.int .i64 a1_4) rfl; have hcz22_5 := cB BK138 5 (.int .i64 a1_5) rfl; have hcz22_6 := cB BK138 6 (.bool a1_6) rfl; have hfz22_0 := blk_frozen BK138.out 0; have hfz22_1 := blk_frozen BK138.out 1; have hfz22_2 := blk_frozen BK138.out 2; have hfz22_3 := blk_frozen BK138.out 3; have hfz22_4 := blk_frozen BK138.out 4; have hfz22_5 := blk_frozen BK138.out 5; have hfz22_6 := blk_frozen BK138.out 6; have hia23 : ∀ W : World, (Instr.indexAt 72 (.pointer (some ⟨gb137, 0, none⟩)) (.int .i64 x5_1)).run Try.prog W = .ok (.pointer (some ⟨gb137, 0, none⟩)) W := by have e_ : x5_1 = 0 := (by first | assumption | exact beq_iff_eq.mp (show (x5_1 == 0) = true by assumption)); intro W; rw [e_]; first | (go_simp; done) | (go_simp; rfl)
        have hcv24 := Kd.C_string (P := Try.prog) (A := A0_0) (c := c0_0) Try.underlying22 Try.underlying5 Try.underlying9 (Kd.C_below HR0_0.out HB.out)
        have hcv24q := fun n_ : Nat => Kd.C_string (P := Try.prog) (A := A0_0) (c := c0_0) Try.underlying22 Try.underlying5 Try.underlying9 (Kd.C_drewN (Kd.C_below HR0_0.out HB.out) n_)
        have hia25 : ∀ W : World, (Instr.indexAt 72 (.pointer (some ⟨gb138, 0, none⟩)) (.int .i64 x5_1)).run Try.prog W = .ok (.pointer (some ⟨gb138, 0, none⟩)) W := by have e_ : x5_1 = 0 := (by first | assumption | exact beq_iff_eq.mp (show (x5_1 == 0) = true by assumption)); intro W; rw [e_]; first | (go_simp; done) | (go_simp; rfl)
        have hcv26 := Kd.C_string (P := Try.prog) (A := A1_0) (c := c1_0) Try.underlying22 Try.underlying5 Try.underlying9 (Kd.C_below HR1_0.out HB.out)
        have hcv26q := fun n_ : Nat => Kd.C_string (P := Try.prog) (A := A1_0) (c := c1_0) Try.underlying22 Try.underlying5 Try.underlying9 (Kd.C_drewN (Kd.C_below HR1_0.out HB.out) n_)
        go_wp2
        repeat (go_quiet (fail); try go_wp2)
        go_ret
        exact ⟨by first | rfl | (simp [errW_none, errW_some] <;> rfl) | (simp [*, errW_none, errW_some] <;> rfl), by repeat (first | (with_reducible first | exact HB.out | apply bA | apply bN | apply bD) | exact HB.out)⟩
      ·rw [if_neg c7] at H
       have c7b0 : (a0_1 == a1_1) = false := beq_eq_false_iff_ne.mpr c7
       have c7b1 : (a0_1 != a1_1) = true := bne_iff_ne.mpr c7
       obtain rfl := Option.some.inj H
       have hia27 : ∀ W : World, (Instr.indexAt 72 (.pointer (some ⟨gb137, 0, none⟩)) (.int .i64 x5_1)).run Try.prog W = .ok (.pointer (some ⟨gb137, 0, none⟩)) W := by have e_ : x5_1 = 0 := (by first | assumption | exact beq_iff_eq.mp (show (x5_1 == 0) = true by assumption)); intro W; rw [e_]; first | (go_simp; done) | (go_simp; rfl)
       have hnb28 := NB137_138.out
       have hnc28 := NB138_137.out
       have hcz29_0 := cB BK137 0 (.slice A0_0 l0_0.length c0_0) rfl; have hcz29_1 := cB BK137 1 (.int .i64 a0_1) rfl; have hcz29_2 := cB BK137 2 (.slice A0_2 l0_2.length c0_2) rfl; have hcz29_3 := cB BK137 3 (.int .i64 a0_3) rfl; have hcz29_4 := cB BK137 4 (.int .i64 a0_4) rfl; have hcz29_5 := cB BK137 5 (.int .i64 a0_5) rfl; have hcz29_6 := cB BK137 6 (.bool a0_6) rfl; have hfz29_0 := blk_frozen BK137.out 0; have hfz29_1 := blk_frozen BK137.out 1; have hfz29_2 := blk_frozen BK137.out 2; have hfz29_3 := blk_frozen BK137.out 3; have hfz29_4 := blk_frozen BK137.out 4; have hfz29_5 := blk_frozen BK137.out 5; have hfz29_6 := blk_frozen BK137.out 6; have hia30 : ∀ W : World, (Instr.indexAt 72 (.pointer (some ⟨gb138, 0, none⟩)) (.int .i64 x5_1)).run Try.prog W = .ok (.pointer (some ⟨gb138, 0, none⟩)) W := by have e_ : x5_1 = 0 := (by first | assumption | exact beq_iff_eq.mp (show (x5_1 == 0) = true by assumption)); intro W; rw [e_]; first | (go_simp; done) | (go_simp; rfl)
       have hcz31_0 := cB BK138 0 (.slice A1_0 l1_0.length c1_0) rfl; have hcz31_1 := cB BK138 1 (.int .i64 a1_1) rfl; have hcz31_2 := cB BK138 2 (.slice A1_2 l1_2.length c1_2) rfl; have hcz31_3 := cB BK138 3 (.int .i64 a1_3) rfl; have hcz31_4 := cB BK138 4 (.int .i64 a1_4) rfl; have hcz31_5 := cB BK138 5 (.int .i64 a1_5) rfl; have hcz31_6 := cB BK138 6 (.bool a1_6) rfl; have hfz31_0 := blk_frozen BK138.out 0; have hfz31_1 := blk_frozen BK138.out 1; have hfz31_2 := blk_frozen BK138.out 2; have hfz31_3 := blk_frozen BK138.out 3; have hfz31_4 := blk_frozen BK138.out 4; have hfz31_5 := blk_frozen BK138.out 5; have hfz31_6 := blk_frozen BK138.out 6; go_wp2
       repeat (go_quiet (fail); try go_wp2)
       go_ret
       exact ⟨by first | rfl | (simp [errW_none, errW_some] <;> rfl) | (simp [*, errW_none, errW_some] <;> rfl), by repeat (first | (with_reducible first | exact HB.out | apply bA | apply bN | apply bD) | exact HB.out)⟩
     ·rw [if_neg c6] at H
      have c6b0 : (x5_1 == 0) = false := beq_eq_false_iff_ne.mpr c6
      have c6b1 : (x5_1 != 0) = true := bne_iff_ne.mpr c6
      by_cases c32 : x5_1 = 1
      ·rw [if_pos c32] at H
       have c32b0 : (x5_1 == 1) = true := beq_iff_eq.mpr c32
       have c32b1 : (x5_1 != 1) = false := bne_eq_false_iff_eq.mpr c32
       clear c32; by_cases c33 : a0_3 = a1_3
       ·rw [if_pos c33] at H
        have c33b0 : (a0_3 == a1_3) = true := beq_iff_eq.mpr c33
        have c33b1 : (a0_3 != a1_3) = false := bne_eq_false_iff_eq.mpr c33
        clear c33; by_cases c34 : (strOfNums l0_2).toList = (strOfNums l1_2).toList
        ·rw [if_pos c34] at H
         have c34b0 : ((strOfNums l0_2).toList == (strOfNums l1_2).toList) = true := beq_iff_eq.mpr c34
         have c34b1 : ((strOfNums l0_2).toList != (strOfNums l1_2).toList) = false := bne_eq_false_iff_eq.mpr c34
         clear c34; have H' := aM H
         clear H; have hia35 : ∀ W : World, (Instr.indexAt 72 (.pointer (some ⟨gb137, 0, none⟩)) (.int .i64 x5_1)).run Try.prog W = .ok (.pointer (some ⟨gb137, 2, none⟩)) W := by have e_ : x5_1 = 1 := (by first | assumption | exact beq_iff_eq.mp (show (x5_1 == 1) = true by assumption)); intro W; rw [e_]; first | (go_simp; done) | (go_simp; rfl)
         have hnb36 := NB137_138.out
         have hnc36 := NB138_137.out
         have hcz37_0 := cB BK137 0 (.slice A0_0 l0_0.length c0_0) rfl; have hcz37_1 := cB BK137 1 (.int .i64 a0_1) rfl; have hcz37_2 := cB BK137 2 (.slice A0_2 l0_2.length c0_2) rfl; have hcz37_3 := cB BK137 3 (.int .i64 a0_3) rfl; have hcz37_4 := cB BK137 4 (.int .i64 a0_4) rfl; have hcz37_5 := cB BK137 5 (.int .i64 a0_5) rfl; have hcz37_6 := cB BK137 6 (.bool a0_6) rfl; have hfz37_0 := blk_frozen BK137.out 0; have hfz37_1 := blk_frozen BK137.out 1; have hfz37_2 := blk_frozen BK137.out 2; have hfz37_3 := blk_frozen BK137.out 3; have hfz37_4 := blk_frozen BK137.out 4; have hfz37_5 := blk_frozen BK137.out 5; have hfz37_6 := blk_frozen BK137.out 6; have hia38 : ∀ W : World, (Instr.indexAt 72 (.pointer (some ⟨gb138, 0, none⟩)) (.int .i64 x5_1)).run Try.prog W = .ok (.pointer (some ⟨gb138, 2, none⟩)) W := by have e_ : x5_1 = 1 := (by first | assumption | exact beq_iff_eq.mp (show (x5_1 == 1) = true by assumption)); intro W; rw [e_]; first | (go_simp; done) | (go_simp; rfl)
         have hcz39_0 := cB BK138 0 (.slice A1_0 l1_0.length c1_0) rfl; have hcz39_1 := cB BK138 1 (.int .i64 a1_1) rfl; have hcz39_2 := cB BK138 2 (.slice A1_2 l1_2.length c1_2) rfl; have hcz39_3 := cB BK138 3 (.int .i64 a1_3) rfl; have hcz39_4 := cB BK138 4 (.int .i64 a1_4) rfl; have hcz39_5 := cB BK138 5 (.int .i64 a1_5) rfl; have hcz39_6 := cB BK138 6 (.bool a1_6) rfl; have hfz39_0 := blk_frozen BK138.out 0; have hfz39_1 := blk_frozen BK138.out 1; have hfz39_2 := blk_frozen BK138.out 2; have hfz39_3 := blk_frozen BK138.out 3; have hfz39_4 := blk_frozen BK138.out 4; have hfz39_5 := blk_frozen BK138.out 5; have hfz39_6 := blk_frozen BK138.out 6; have hia40 : ∀ W : World, (Instr.indexAt 72 (.pointer (some ⟨gb137, 0, none⟩)) (.int .i64 x5_1)).run Try.prog W = .ok (.pointer (some ⟨gb137, 2, none⟩)) W := by have e_ : x5_1 = 1 := (by first | assumption | exact beq_iff_eq.mp (show (x5_1 == 1) = true by assumption)); intro W; rw [e_]; first | (go_simp; done) | (go_simp; rfl)
         have hcv41 := Kd.C_string (P := Try.prog) (A := A0_2) (c := c0_2) Try.underlying22 Try.underlying5 Try.underlying9 (Kd.C_below HR0_2.out HB.out)
         have hcv41q := fun n_ : Nat => Kd.C_string (P := Try.prog) (A := A0_2) (c := c0_2) Try.underlying22 Try.underlying5 Try.underlying9 (Kd.C_drewN (Kd.C_below HR0_2.out HB.out) n_)
         have hia42 : ∀ W : World, (Instr.indexAt 72 (.pointer (some ⟨gb138, 0, none⟩)) (.int .i64 x5_1)).run Try.prog W = .ok (.pointer (some ⟨gb138, 2, none⟩)) W := by have e_ : x5_1 = 1 := (by first | assumption | exact beq_iff_eq.mp (show (x5_1 == 1) = true by assumption)); intro W; rw [e_]; first | (go_simp; done) | (go_simp; rfl)
         have hcv43 := Kd.C_string (P := Try.prog) (A := A1_2) (c := c1_2) Try.underlying22 Try.underlying5 Try.underlying9 (Kd.C_below HR1_2.out HB.out)
         have hcv43q := fun n_ : Nat => Kd.C_string (P := Try.prog) (A := A1_2) (c := c1_2) Try.underlying22 Try.underlying5 Try.underlying9 (Kd.C_drewN (Kd.C_below HR1_2.out HB.out) n_)
         go_wp2
         repeat (go_quiet (fail); try go_wp2)
         go_roundg k1
         case measure => have := HK1.out; omega
         case rel => exact ⟨(wrap64 (x5_1 + 1)), (by first | rfl | (simp; done) | (simp [*]; done)), H', ⟨by have := HK1.out; omega⟩, ⟨gB BK137⟩, ⟨gB BK138⟩, ⟨sG HB⟩⟩
        ·rw [if_neg c34] at H
         have c34b0 : ((strOfNums l0_2).toList == (strOfNums l1_2).toList) = false := beq_eq_false_iff_ne.mpr c34
         have c34b1 : ((strOfNums l0_2).toList != (strOfNums l1_2).toList) = true := bne_iff_ne.mpr c34
         obtain rfl := Option.some.inj H
         have hia44 : ∀ W : World, (Instr.indexAt 72 (.pointer (some ⟨gb137, 0, none⟩)) (.int .i64 x5_1)).run Try.prog W = .ok (.pointer (some ⟨gb137, 2, none⟩)) W := by have e_ : x5_1 = 1 := (by first | assumption | exact beq_iff_eq.mp (show (x5_1 == 1) = true by assumption)); intro W; rw [e_]; first | (go_simp; done) | (go_simp; rfl)
         have hnb45 := NB137_138.out
         have hnc45 := NB138_137.out
         have hcz46_0 := cB BK137 0 (.slice A0_0 l0_0.length c0_0) rfl; have hcz46_1 := cB BK137 1 (.int .i64 a0_1) rfl; have hcz46_2 := cB BK137 2 (.slice A0_2 l0_2.length c0_2) rfl; have hcz46_3 := cB BK137 3 (.int .i64 a0_3) rfl; have hcz46_4 := cB BK137 4 (.int .i64 a0_4) rfl; have hcz46_5 := cB BK137 5 (.int .i64 a0_5) rfl; have hcz46_6 := cB BK137 6 (.bool a0_6) rfl; have hfz46_0 := blk_frozen BK137.out 0; have hfz46_1 := blk_frozen BK137.out 1; have hfz46_2 := blk_frozen BK137.out 2; have hfz46_3 := blk_frozen BK137.out 3; have hfz46_4 := blk_frozen BK137.out 4; have hfz46_5 := blk_frozen BK137.out 5; have hfz46_6 := blk_frozen BK137.out 6; have hia47 : ∀ W : World, (Instr.indexAt 72 (.pointer (some ⟨gb138, 0, none⟩)) (.int .i64 x5_1)).run Try.prog W = .ok (.pointer (some ⟨gb138, 2, none⟩)) W := by have e_ : x5_1 = 1 := (by first | assumption | exact beq_iff_eq.mp (show (x5_1 == 1) = true by assumption)); intro W; rw [e_]; first | (go_simp; done) | (go_simp; rfl)
         have hcz48_0 := cB BK138 0 (.slice A1_0 l1_0.length c1_0) rfl; have hcz48_1 := cB BK138 1 (.int .i64 a1_1) rfl; have hcz48_2 := cB BK138 2 (.slice A1_2 l1_2.length c1_2) rfl; have hcz48_3 := cB BK138 3 (.int .i64 a1_3) rfl; have hcz48_4 := cB BK138 4 (.int .i64 a1_4) rfl; have hcz48_5 := cB BK138 5 (.int .i64 a1_5) rfl; have hcz48_6 := cB BK138 6 (.bool a1_6) rfl; have hfz48_0 := blk_frozen BK138.out 0; have hfz48_1 := blk_frozen BK138.out 1; have hfz48_2 := blk_frozen BK138.out 2; have hfz48_3 := blk_frozen BK138.out 3; have hfz48_4 := blk_frozen BK138.out 4; have hfz48_5 := blk_frozen BK138.out 5; have hfz48_6 := blk_frozen BK138.out 6; have hia49 : ∀ W : World, (Instr.indexAt 72 (.pointer (some ⟨gb137, 0, none⟩)) (.int .i64 x5_1)).run Try.prog W = .ok (.pointer (some ⟨gb137, 2, none⟩)) W := by have e_ : x5_1 = 1 := (by first | assumption | exact beq_iff_eq.mp (show (x5_1 == 1) = true by assumption)); intro W; rw [e_]; first | (go_simp; done) | (go_simp; rfl)
         have hcv50 := Kd.C_string (P := Try.prog) (A := A0_2) (c := c0_2) Try.underlying22 Try.underlying5 Try.underlying9 (Kd.C_below HR0_2.out HB.out)
         have hcv50q := fun n_ : Nat => Kd.C_string (P := Try.prog) (A := A0_2) (c := c0_2) Try.underlying22 Try.underlying5 Try.underlying9 (Kd.C_drewN (Kd.C_below HR0_2.out HB.out) n_)
         have hia51 : ∀ W : World, (Instr.indexAt 72 (.pointer (some ⟨gb138, 0, none⟩)) (.int .i64 x5_1)).run Try.prog W = .ok (.pointer (some ⟨gb138, 2, none⟩)) W := by have e_ : x5_1 = 1 := (by first | assumption | exact beq_iff_eq.mp (show (x5_1 == 1) = true by assumption)); intro W; rw [e_]; first | (go_simp; done) | (go_simp; rfl)
         have hcv52 := Kd.C_string (P := Try.prog) (A := A1_2) (c := c1_2) Try.underlying22 Try.underlying5 Try.underlying9 (Kd.C_below HR1_2.out HB.out)
         have hcv52q := fun n_ : Nat => Kd.C_string (P := Try.prog) (A := A1_2) (c := c1_2) Try.underlying22 Try.underlying5 Try.underlying9 (Kd.C_drewN (Kd.C_below HR1_2.out HB.out) n_)
         go_wp2
         repeat (go_quiet (fail); try go_wp2)
         go_ret
         exact ⟨by first | rfl | (simp [errW_none, errW_some] <;> rfl) | (simp [*, errW_none, errW_some] <;> rfl), by repeat (first | (with_reducible first | exact HB.out | apply bA | apply bN | apply bD) | exact HB.out)⟩
       ·rw [if_neg c33] at H
        have c33b0 : (a0_3 == a1_3) = false := beq_eq_false_iff_ne.mpr c33
        have c33b1 : (a0_3 != a1_3) = true := bne_iff_ne.mpr c33
        obtain rfl := Option.some.inj H
        have hia53 : ∀ W : World, (Instr.indexAt 72 (.pointer (some ⟨gb137, 0, none⟩)) (.int .i64 x5_1)).run Try.prog W = .ok (.pointer (some ⟨gb137, 2, none⟩)) W := by have e_ : x5_1 = 1 := (by first | assumption | exact beq_iff_eq.mp (show (x5_1 == 1) = true by assumption)); intro W; rw [e_]; first | (go_simp; done) | (go_simp; rfl)
        have hnb54 := NB137_138.out
        have hnc54 := NB138_137.out
        have hcz55_0 := cB BK137 0 (.slice A0_0 l0_0.length c0_0) rfl; have hcz55_1 := cB BK137 1 (.int .i64 a0_1) rfl; have hcz55_2 := cB BK137 2 (.slice A0_2 l0_2.length c0_2) rfl; have hcz55_3 := cB BK137 3 (.int .i64 a0_3) rfl; have hcz55_4 := cB BK137 4 (.int .i64 a0_4) rfl; have hcz55_5 := cB BK137 5 (.int .i64 a0_5) rfl; have hcz55_6 := cB BK137 6 (.bool a0_6) rfl; have hfz55_0 := blk_frozen BK137.out 0; have hfz55_1 := blk_frozen BK137.out 1; have hfz55_2 := blk_frozen BK137.out 2; have hfz55_3 := blk_frozen BK137.out 3; have hfz55_4 := blk_frozen BK137.out 4; have hfz55_5 := blk_frozen BK137.out 5; have hfz55_6 := blk_frozen BK137.out 6; have hia56 : ∀ W : World, (Instr.indexAt 72 (.pointer (some ⟨gb138, 0, none⟩)) (.int .i64 x5_1)).run Try.prog W = .ok (.pointer (some ⟨gb138, 2, none⟩)) W := by have e_ : x5_1 = 1 := (by first | assumption | exact beq_iff_eq.mp (show (x5_1 == 1) = true by assumption)); intro W; rw [e_]; first | (go_simp; done) | (go_simp; rfl)
        have hcz57_0 := cB BK138 0 (.slice A1_0 l1_0.length c1_0) rfl; have hcz57_1 := cB BK138 1 (.int .i64 a1_1) rfl; have hcz57_2 := cB BK138 2 (.slice A1_2 l1_2.length c1_2) rfl; have hcz57_3 := cB BK138 3 (.int .i64 a1_3) rfl; have hcz57_4 := cB BK138 4 (.int .i64 a1_4) rfl; have hcz57_5 := cB BK138 5 (.int .i64 a1_5) rfl; have hcz57_6 := cB BK138 6 (.bool a1_6) rfl; have hfz57_0 := blk_frozen BK138.out 0; have hfz57_1 := blk_frozen BK138.out 1; have hfz57_2 := blk_frozen BK138.out 2; have hfz57_3 := blk_frozen BK138.out 3; have hfz57_4 := blk_frozen BK138.out 4; have hfz57_5 := blk_frozen BK138.out 5; have hfz57_6 := blk_frozen BK138.out 6; go_wp2
        repeat (go_quiet (fail); try go_wp2)
        go_ret
        exact ⟨by first | rfl | (simp [errW_none, errW_some] <;> rfl) | (simp [*, errW_none, errW_some] <;> rfl), by repeat (first | (with_reducible first | exact HB.out | apply bA | apply bN | apply bD) | exact HB.out)⟩
      ·rw [if_neg c32] at H
       exact absurd H (by simp)
    ·rw [if_neg c5] at H
     have c5b0 : decide (x5_1 < 2) = false := decide_eq_false c5
     clear c5; by_cases c58 : a0_4 = a1_4
     ·rw [if_pos c58] at H
      have c58b0 : (a0_4 == a1_4) = true := beq_iff_eq.mpr c58
      have c58b1 : (a0_4 != a1_4) = false := bne_eq_false_iff_eq.mpr c58
      clear c58; by_cases c59 : a0_5 = a1_5
      ·rw [if_pos c59] at H
       have c59b0 : (a0_5 == a1_5) = true := beq_iff_eq.mpr c59
       have c59b1 : (a0_5 != a1_5) = false := bne_eq_false_iff_eq.mpr c59
       clear c59; obtain rfl := Option.some.inj H
       have hnb60 := NB137_138.out
       have hnc60 := NB138_137.out
       have hcz61_0 := cB BK137 0 (.slice A0_0 l0_0.length c0_0) rfl; have hcz61_1 := cB BK137 1 (.int .i64 a0_1) rfl; have hcz61_2 := cB BK137 2 (.slice A0_2 l0_2.length c0_2) rfl; have hcz61_3 := cB BK137 3 (.int .i64 a0_3) rfl; have hcz61_4 := cB BK137 4 (.int .i64 a0_4) rfl; have hcz61_5 := cB BK137 5 (.int .i64 a0_5) rfl; have hcz61_6 := cB BK137 6 (.bool a0_6) rfl; have hfz61_0 := blk_frozen BK137.out 0; have hfz61_1 := blk_frozen BK137.out 1; have hfz61_2 := blk_frozen BK137.out 2; have hfz61_3 := blk_frozen BK137.out 3; have hfz61_4 := blk_frozen BK137.out 4; have hfz61_5 := blk_frozen BK137.out 5; have hfz61_6 := blk_frozen BK137.out 6; have hcz62_0 := cB BK138 0 (.slice A1_0 l1_0.length c1_0) rfl; have hcz62_1 := cB BK138 1 (.int .i64 a1_1) rfl; have hcz62_2 := cB BK138 2 (.slice A1_2 l1_2.length c1_2) rfl; have hcz62_3 := cB BK138 3 (.int .i64 a1_3) rfl; have hcz62_4 := cB BK138 4 (.int .i64 a1_4) rfl; have hcz62_5 := cB BK138 5 (.int .i64 a1_5) rfl; have hcz62_6 := cB BK138 6 (.bool a1_6) rfl; have hfz62_0 := blk_frozen BK138.out 0; have hfz62_1 := blk_frozen BK138.out 1; have hfz62_2 := blk_frozen BK138.out 2; have hfz62_3 := blk_frozen BK138.out 3; have hfz62_4 := blk_frozen BK138.out 4; have hfz62_5 := blk_frozen BK138.out 5; have hfz62_6 := blk_frozen BK138.out 6; go_wp2
       repeat (go_quiet (fail); try go_wp2)
       go_ret
       exact ⟨by first | rfl | (simp [errW_none, errW_some] <;> rfl) | (simp [*, errW_none, errW_some] <;> rfl), by repeat (first | (with_reducible first | exact HB.out | apply bA | apply bN | apply bD) | exact HB.out)⟩
      ·rw [if_neg c59] at H
       have c59b0 : (a0_5 == a1_5) = false := beq_eq_false_iff_ne.mpr c59
       have c59b1 : (a0_5 != a1_5) = true := bne_iff_ne.mpr c59
       obtain rfl := Option.some.inj H
       have hnb63 := NB137_138.out
       have hnc63 := NB138_137.out
       have hcz64_0 := cB BK137 0 (.slice A0_0 l0_0.length c0_0) rfl; have hcz64_1 := cB BK137 1 (.int .i64 a0_1) rfl; have hcz64_2 := cB BK137 2 (.slice A0_2 l0_2.length c0_2) rfl; have hcz64_3 := cB BK137 3 (.int .i64 a0_3) rfl; have hcz64_4 := cB BK137 4 (.int .i64 a0_4) rfl; have hcz64_5 := cB BK137 5 (.int .i64 a0_5) rfl; have hcz64_6 := cB BK137 6 (.bool a0_6) rfl; have hfz64_0 := blk_frozen BK137.out 0; have hfz64_1 := blk_frozen BK137.out 1; have hfz64_2 := blk_frozen BK137.out 2; have hfz64_3 := blk_frozen BK137.out 3; have hfz64_4 := blk_frozen BK137.out 4; have hfz64_5 := blk_frozen BK137.out 5; have hfz64_6 := blk_frozen BK137.out 6; have hcz65_0 := cB BK138 0 (.slice A1_0 l1_0.length c1_0) rfl; have hcz65_1 := cB BK138 1 (.int .i64 a1_1) rfl; have hcz65_2 := cB BK138 2 (.slice A1_2 l1_2.length c1_2) rfl; have hcz65_3 := cB BK138 3 (.int .i64 a1_3) rfl; have hcz65_4 := cB BK138 4 (.int .i64 a1_4) rfl; have hcz65_5 := cB BK138 5 (.int .i64 a1_5) rfl; have hcz65_6 := cB BK138 6 (.bool a1_6) rfl; have hfz65_0 := blk_frozen BK138.out 0; have hfz65_1 := blk_frozen BK138.out 1; have hfz65_2 := blk_frozen BK138.out 2; have hfz65_3 := blk_frozen BK138.out 3; have hfz65_4 := blk_frozen BK138.out 4; have hfz65_5 := blk_frozen BK138.out 5; have hfz65_6 := blk_frozen BK138.out 6; go_wp2
       repeat (go_quiet (fail); try go_wp2)
       go_ret
       exact ⟨by first | rfl | (simp [errW_none, errW_some] <;> rfl) | (simp [*, errW_none, errW_some] <;> rfl), by repeat (first | (with_reducible first | exact HB.out | apply bA | apply bN | apply bD) | exact HB.out)⟩
     ·rw [if_neg c58] at H
      have c58b0 : (a0_4 == a1_4) = false := beq_eq_false_iff_ne.mpr c58
      have c58b1 : (a0_4 != a1_4) = true := bne_iff_ne.mpr c58
      obtain rfl := Option.some.inj H
      have hnb66 := NB137_138.out
      have hnc66 := NB138_137.out
      have hcz67_0 := cB BK137 0 (.slice A0_0 l0_0.length c0_0) rfl; have hcz67_1 := cB BK137 1 (.int .i64 a0_1) rfl; have hcz67_2 := cB BK137 2 (.slice A0_2 l0_2.length c0_2) rfl; have hcz67_3 := cB BK137 3 (.int .i64 a0_3) rfl; have hcz67_4 := cB BK137 4 (.int .i64 a0_4) rfl; have hcz67_5 := cB BK137 5 (.int .i64 a0_5) rfl; have hcz67_6 := cB BK137 6 (.bool a0_6) rfl; have hfz67_0 := blk_frozen BK137.out 0; have hfz67_1 := blk_frozen BK137.out 1; have hfz67_2 := blk_frozen BK137.out 2; have hfz67_3 := blk_frozen BK137.out 3; have hfz67_4 := blk_frozen BK137.out 4; have hfz67_5 := blk_frozen BK137.out 5; have hfz67_6 := blk_frozen BK137.out 6; have hcz68_0 := cB BK138 0 (.slice A1_0 l1_0.length c1_0) rfl; have hcz68_1 := cB BK138 1 (.int .i64 a1_1) rfl; have hcz68_2 := cB BK138 2 (.slice A1_2 l1_2.length c1_2) rfl; have hcz68_3 := cB BK138 3 (.int .i64 a1_3) rfl; have hcz68_4 := cB BK138 4 (.int .i64 a1_4) rfl; have hcz68_5 := cB BK138 5 (.int .i64 a1_5) rfl; have hcz68_6 := cB BK138 6 (.bool a1_6) rfl; have hfz68_0 := blk_frozen BK138.out 0; have hfz68_1 := blk_frozen BK138.out 1; have hfz68_2 := blk_frozen BK138.out 2; have hfz68_3 := blk_frozen BK138.out 3; have hfz68_4 := blk_frozen BK138.out 4; have hfz68_5 := blk_frozen BK138.out 5; have hfz68_6 := blk_frozen BK138.out 6; go_wp2
      repeat (go_quiet (fail); try go_wp2)
      go_ret
      exact ⟨by first | rfl | (simp [errW_none, errW_some] <;> rfl) | (simp [*, errW_none, errW_some] <;> rfl), by repeat (first | (with_reducible first | exact HB.out | apply bA | apply bN | apply bD) | exact HB.out)⟩

end Go.Proofs.Ytnpkhkhlofkbhaa.PDiskRight
