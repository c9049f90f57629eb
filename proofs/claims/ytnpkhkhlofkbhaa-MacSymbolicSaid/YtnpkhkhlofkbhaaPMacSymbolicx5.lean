-- made by a program of this session (its printer) out of what Lean prints of the given program
import Derived.Test.YtnpkhkhlofkbhaaPMacSymbolicx0
import Derived.Test.YtnpkhkhlofkbhaaPMacSymbolicx3
import Derived.Test.YtnpkhkhlofkbhaaPMacSymbolicx4
namespace Go.Proofs.Ytnpkhkhlofkbhaa.PMacSymbolic
open Go.RowKit Go.Proofs.YtnpkhkhlofkbhaaW.PrintWords Go.Proofs.YtnpkhkhlofkbhaaW.PrintLast Go.Proofs.YtnpkhkhlofkbhaaW.PrintMore
attribute [local go_sem] max2_int min2_int max_two min_two max_three min_three max_four min_four   -- for this text's walks alone
set_option linter.unusedVariables false
set_option linter.unusedSimpArgs false

set_option linter.unusedSectionVars false
variable [Inhabited Tb]
/-! ### wristbandlaw06_awake: function 78 -/
theorem ma.c2 {W : World} {g t : Nat} {a b : Value} (h : W.heap[g]? = some (.cells #[a, b] t (0, 0))) : W.cell? ⟨g, 0, none⟩ = some a ∧ W.cell? ⟨g, 1, none⟩ = some b := ⟨(blk_cell h 0).trans rfl, (blk_cell h 1).trans rfl⟩
theorem ma.nil {le : List S60} (h : le = []) (W : World) (A : Option Addr) : Kd.C k60 W A le.length le := by
  subst h
  exact ⟨rfl, by simp, fun h => absurd h (by simp)⟩
theorem ma.nilV {le : List S60} (h : le = []) (W : World) (n : Nat) (A : Option Addr) (c : Nat) : Kd.V k60 60 W n (fun _ => False) (.slice A le.length c) le :=
  Kd.V_mk (by subst h; simp) (fun W' _ => ma.nil h W' A)
theorem ma.conv (W : World) (x : Int) : (convert 22 22 (.slice (some ⟨W.heap.size, 0, none⟩) 1 1)).run Try.prog (W.alloc (.cells #[.int .u8 x] 5)) = .ok (.slice (some ⟨W.heap.size, 0, none⟩) 1 1) (W.alloc (.cells #[.int .u8 x] 5 (1, 2))) :=
  Lib.run_convert_bytes_const (P := Try.prog)  W 22 5 #[.int .u8 x] 1 1 Try.underlying22 Try.underlying5
theorem ma.conv2 (W : World) (o : Obj) (x : Int) : (convert 22 22 (.slice (some ⟨W.heap.size + 1, 0, none⟩) 1 1)).run Try.prog ((W.alloc o).alloc (.cells #[.int .u8 x] 5)) = .ok (.slice (some ⟨W.heap.size + 1, 0, none⟩) 1 1) ((W.alloc o).alloc (.cells #[.int .u8 x] 5 (1, 2))) := by
  have h := ma.conv (W.alloc o) x
  rwa [alloc_size'] at h
theorem ma.lit {W : World} {g : Nat} {x : Int} {fr : Nat × Nat} (h : W.heap[g]? = some (.cells #[.int .u8 x] 5 fr)) : Kd.C (Kd.int .u8) W (some ⟨g, 0, none⟩) ([x] : List Int).length [x] := by
  refine Kd.C_of_reads (enc := Value.int .u8) (d := (0 : Int)) (h1 := fun _ => rfl) ?_
  refine ⟨rfl, by simp, fun _ => ⟨_, rfl, fun j hj => ?_⟩⟩
  match j, hj with
  | 0, _ => simp [World.cell?, Addr.add, h, rdOf]
set_option maxHeartbeats 8000000 in
set_option maxRecDepth 100000 in
theorem ma.awake (k : Nat) (le lg lc : List S60) (lk lm ln l8 tb td : List Int) (hle : le = []) (hlk : lk = [107]) (hlm : lm = [109]) (hln : ln = [110]) (hl8 : l8 = [0, 0, 0, 0, 0, 0, 0, 1]) (fn2 : mac_New.f 2 = some (2, le, 0)) (fn1 : mac_New.f 1 = some (1, le, 0)) (fn3 : mac_New.f 3 = some (0, le, 1)) (ff1 : mac_Fits.f k 2 le lk lm l8 = some false) (ft1 : mac_Tag.f k 2 le lk lm = some (2, lg, tb, 0)) (ft2 : mac_Tag.f k 1 le lk lm = some (1, lc, td, 0)) (ff2 : mac_Fits.f k 2 lg lk lm tb = some true) (ff3 : mac_Fits.f k 2 lg lk ln tb = some false) (ff4 : mac_Fits.f k 1 le lk lm td = some true) (fr : mac_Right.f 2 lg = some true) (hb8 : tb.length = 8) (hd8 : td.length = 8) (hg1 : lg.length = 1) (w : World) (hL0 : Kd.C (Kd.int .u32) w (some ⟨1, 0, none⟩) 64 shaK) (hL1 : Kd.C (Kd.int .u32) w (some ⟨0, 0, none⟩) 8 shaF) :
    Calls Try.prog 78 #[] w fun e w' => e = .returned (.bool true) ∧ Below w.heap.size w w' := by
  have HLE := Aside0.mk hle; have LK := Aside0.mk hlk; have LM := Aside0.mk hlm; have LN := Aside0.mk hln; have L8 := Aside0.mk hl8; have FN2 := Aside0.mk fn2; have FN1 := Aside0.mk fn1; have FN3 := Aside0.mk fn3; have FF1 := Aside0.mk ff1; have FT1 := Aside0.mk ft1; have FT2 := Aside0.mk ft2; have FF2 := Aside0.mk ff2; have FF3 := Aside0.mk ff3; have FF4 := Aside0.mk ff4; have FR := Aside0.mk fr
  have HL0 := Aside0.mk hL0; have HL1 := Aside0.mk hL1
  have y1 : (tb.length == 8) = true := beq_iff_eq.2 hb8
  have y2 : ((tb.length : Int) == 8) = true := beq_iff_eq.2 (by omega)
  have y3 : (td.length == 8) = true := beq_iff_eq.2 hd8
  have y4 : ((td.length : Int) == 8) = true := beq_iff_eq.2 (by omega)
  have y5 : (lg.length == 1) = true := beq_iff_eq.2 hg1
  have y6 : ((lg.length : Int) == 1) = true := beq_iff_eq.2 (by omega)
  clear hle hlk hlm hln hl8 fn2 fn1 fn3 ff1 ft1 ft2 ff2 ff3 ff4 fr hL0 hL1 hb8 hd8 hg1
  have HB := Aside0.mk (Below.refl w.heap.size w)
  have H := Aside0.mk (Below.refl w.heap.size w)
  go_enter Try.func78, Try.ntmps78
  go_upto_region 2 with (go_at_call 79; refine Calls.mono (mac_New.calls 2 2 le 0 _ FN2.out) ?_; rintro e wn ⟨v, rfl, h0, hb⟩; obtain ⟨Ae, ce, rfl⟩ := Kd.S_slice h0; have Ze := Aside0.mk (Kd.R_reads' (Kd.S_R h0)).2.1; have H9 := Aside0.mk (below_step H.out hb); clear H; have H := H9; clear H9; clear h0 hb)
  have B19 := Aside0.mk (blk_new wn (.cells #[.int .i64 2, .slice Ae le.length ce] 105))
  have HB9 := Aside0.mk (below_alloc (below_step HB.out H.out) (.cells #[.int .i64 2, .slice Ae le.length ce] 105))
  have GB19 := Aside0.mk (below_step HB.out H.out).size
  generalize wn.alloc (.cells #[.int .i64 2, .slice Ae le.length ce] 105) = W1 at B19 HB9 ⊢
  generalize wn.heap.size = g1 at B19 GB19 ⊢
  clear H
  have B1 := B19
  clear B19
  clear HB
  have HB := HB9
  clear HB9
  have GB1 := GB19
  clear GB19
  have H := Aside0.mk (Below.refl W1.heap.size W1)
  obtain ⟨pa0, pa1⟩ := ma.c2 (blk_below B1.out H.out)
  go_upto_region 3 with (first
    | ((with_reducible refine gate_dst (N := 18) rfl ?_); (try (refine gate_guard (by rfl) ?_; dsimp only)); refine V_const (base := _) (e := 5) (t := 22) (N' := 18) ?hg ?hd ?ho2 ?hlt Try.underlying22 Try.underlying5 (xs := [107]) (ok := fun _ => True) ?hr ?hg2 trivial (Below.refl _ _) (Nat.le_refl _) (by simp) ?_; (case hd => rfl); (case hg => rfl); (case ho2 => rfl); (case hg2 => rfl); (case hlt => exact of_decide_eq_true rfl); (case hr => first | (go_simp; done) | (go_simp; rfl)); intro v wl ho hb _ _; rw [← LK.out] at ho; obtain ⟨Ak, ck, rfl⟩ := Kd.V_slice ho; have Kk := Aside0.mk (Kd.V_reads' ho).2.2; have Zk := Aside0.mk (Kd.V_reads' ho).2.1; have H9 := Aside0.mk (below_step H.out hb); clear H; have H := H9; clear H9; clear ho hb)
    | ((with_reducible refine gate_dst (N := 20) rfl ?_); (try (refine gate_guard (by rfl) ?_; dsimp only)); refine V_const (base := _) (e := 5) (t := 22) (N' := 20) ?hg ?hd ?ho2 ?hlt Try.underlying22 Try.underlying5 (xs := [109]) (ok := fun _ => True) ?hr ?hg2 trivial (Below.refl _ _) (Nat.le_refl _) (by simp) ?_; (case hd => rfl); (case hg => rfl); (case ho2 => rfl); (case hg2 => rfl); (case hlt => exact of_decide_eq_true rfl); (case hr => first | (go_simp; done) | (go_simp; rfl)); intro v wl ho hb _ _; rw [← LM.out] at ho; obtain ⟨Am, cm, rfl⟩ := Kd.V_slice ho; have Km := Aside0.mk (Kd.V_reads' ho).2.2; have Zm := Aside0.mk (Kd.V_reads' ho).2.1; have H9 := Aside0.mk (below_step H.out hb); clear H; have H := H9; clear H9; have Kk9 := Aside0.mk (Kd.C_below Kk.out hb); clear Kk; have Kk := Kk9; clear Kk9; clear ho hb)
    | ((with_reducible refine gate_dst (N := 22) rfl ?_); (try (refine gate_guard (by rfl) ?_; dsimp only)); refine Kd.R_lit (Kd.int .u8) _ 5 ?hg (N := 22) ?hd (xs := ([0, 0, 0, 0, 0, 0, 0, 1] : List Int)) (inner := [.int .u8 0, .int .u8 0, .int .u8 0, .int .u8 0, .int .u8 0, .int .u8 0, .int .u8 0, .int .u8 1]) (ok := fun _ => True) (okp := fun _ => True) ?hr ?hp (fun _ hk => hk) trivial (Below.refl _ _) (Nat.le_refl _) (by simp) ?_; (case hd => rfl); (case hg => rfl); (case hr => first | (go_simp; done) | (go_simp; rfl)); (case hp => exact (Reps.one (show Kd.M (Kd.int .u8) _ _ _ 0 [.int .u8 0] from rfl) (Reps.one (show Kd.M (Kd.int .u8) _ _ _ 0 [.int .u8 0] from rfl) (Reps.one (show Kd.M (Kd.int .u8) _ _ _ 0 [.int .u8 0] from rfl) (Reps.one (show Kd.M (Kd.int .u8) _ _ _ 0 [.int .u8 0] from rfl) (Reps.one (show Kd.M (Kd.int .u8) _ _ _ 0 [.int .u8 0] from rfl) (Reps.one (show Kd.M (Kd.int .u8) _ _ _ 0 [.int .u8 0] from rfl) (Reps.one (show Kd.M (Kd.int .u8) _ _ _ 0 [.int .u8 0] from rfl) (Reps.one (show Kd.M (Kd.int .u8) _ _ _ 1 [.int .u8 1] from rfl) (Reps.none _ _)))))))))); intro v wl ho hb _ _; rw [← L8.out] at ho; obtain ⟨At, ct, rfl⟩ := Kd.R_slice ho; have Kt := Aside0.mk (Kd.R_reads' ho).2.2; have Zt := Aside0.mk (Kd.R_reads' ho).2.1; have H9 := Aside0.mk (below_step H.out hb); clear H; have H := H9; clear H9; have Kk9 := Aside0.mk (Kd.C_below Kk.out hb); clear Kk; have Kk := Kk9; clear Kk9; have Km9 := Aside0.mk (Kd.C_below Km.out hb); clear Km; have Km := Km9; clear Km9; clear ho hb)
    | (go_at_call 85; (with_reducible refine Calls.mono (mac_Fits.calls k 2 _ _ le _ _ lk _ _ lm _ _ l8 false _ (ma.nil HLE.out _ _) Ze.out Kk.out Zk.out Km.out Zm.out Kt.out Zt.out (Kd.C_below HL0.out (below_step HB.out H.out)) (Kd.C_below HL1.out (below_step HB.out H.out)) FF1.out) ?_); rintro e wf ⟨rfl, hb⟩; have H9 := Aside0.mk (below_step H.out hb); clear H; have H := H9; clear H9; clear hb Kk Km))
  clear pa0 pa1 Kt
  obtain ⟨pa0, pa1⟩ := ma.c2 (blk_below B1.out H.out)
  go_upto_region 4 with (first
    | ((with_reducible refine gate_dst (N := 26) rfl ?_); (try (refine gate_guard (by rfl) ?_; dsimp only)); refine V_const (base := _) (e := 5) (t := 22) (N' := 26) ?hg ?hd ?ho2 ?hlt Try.underlying22 Try.underlying5 (xs := [107]) (ok := fun _ => True) ?hr ?hg2 trivial (Below.refl _ _) (Nat.le_refl _) (by simp) ?_; (case hd => rfl); (case hg => rfl); (case ho2 => rfl); (case hg2 => rfl); (case hlt => exact of_decide_eq_true rfl); (case hr => first | (go_simp; done) | (go_simp; rfl)); intro v wl ho hb _ _; rw [← LK.out] at ho; obtain ⟨Ak, ck, rfl⟩ := Kd.V_slice ho; have Kk := Aside0.mk (Kd.V_reads' ho).2.2; have Zk := Aside0.mk (Kd.V_reads' ho).2.1; have H9 := Aside0.mk (below_step H.out hb); clear H; have H := H9; clear H9; clear ho hb)
    | ((with_reducible refine gate_dst (N := 28) rfl ?_); (try (refine gate_guard (by rfl) ?_; dsimp only)); refine V_const (base := _) (e := 5) (t := 22) (N' := 28) ?hg ?hd ?ho2 ?hlt Try.underlying22 Try.underlying5 (xs := [109]) (ok := fun _ => True) ?hr ?hg2 trivial (Below.refl _ _) (Nat.le_refl _) (by simp) ?_; (case hd => rfl); (case hg => rfl); (case ho2 => rfl); (case hg2 => rfl); (case hlt => exact of_decide_eq_true rfl); (case hr => first | (go_simp; done) | (go_simp; rfl)); intro v wl ho hb _ _; rw [← LM.out] at ho; obtain ⟨Am, cm, rfl⟩ := Kd.V_slice ho; have Km := Aside0.mk (Kd.V_reads' ho).2.2; have Zm := Aside0.mk (Kd.V_reads' ho).2.1; have H9 := Aside0.mk (below_step H.out hb); clear H; have H := H9; clear H9; have Kk9 := Aside0.mk (Kd.C_below Kk.out hb); clear Kk; have Kk := Kk9; clear Kk9; clear ho hb)
    | (go_at_call 82; refine Calls.mono (mac_Tag.calls k 2 (fun _ => False) _ _ le _ _ lk _ _ lm 2 lg tb 0 _ (ma.nilV HLE.out _ _ _ _) Kk.out Zk.out Km.out Zm.out (Kd.C_below HL0.out (below_step HB.out H.out)) (Kd.C_below HL1.out (below_step HB.out H.out)) FT1.out) ?_; rintro e wt ⟨v1, v2, rfl, h1, h2, hb⟩; obtain ⟨Ag, cg, rfl⟩ := Kd.V_slice h1; obtain ⟨Ab, cb, rfl⟩ := Kd.V_slice h2; have VG := Aside0.mk (Kd.V_mono (ok' := fun k_ => g1 < k_) h1 (fun k_ hk => by rcases hk with hk | hk; exact hk.elim; exact Nat.lt_of_lt_of_le (blk_lt (blk_below B1.out H.out)) hk)); have VB := Aside0.mk (Kd.V_mono (ok' := fun k_ => g1 < k_) h2 (fun k_ hk => by rcases hk with hk | hk; exact hk.elim; exact Nat.lt_of_lt_of_le (blk_lt (blk_below B1.out H.out)) hk)); have H9 := Aside0.mk (below_step H.out hb); clear H; have H := H9; clear H9; clear h1 h2 hb Kk Km; obtain ⟨pb0, pb1⟩ := ma.c2 (blk_below B1.out H.out); have f0 := blk_frozen (blk_below B1.out H.out) 0; have f1 := blk_frozen (blk_below B1.out H.out) 1))
  clear pa0 pa1
  have B19 := Aside0.mk (mk.set2 (c := .int .i64 2) (d := .slice Ag lg.length cg) (blk_below B1.out H.out))
  have VG9 := Aside0.mk (mk.far2 (c := .int .i64 2) (d := .slice Ag lg.length cg) VG.out (fun k_ hk => Nat.ne_of_gt hk))
  have VB9 := Aside0.mk (mk.far2 (c := .int .i64 2) (d := .slice Ag lg.length cg) VB.out (fun k_ hk => Nat.ne_of_gt hk))
  have HB9 := Aside0.mk (below_set (j := 1) (v := .slice Ag lg.length cg) (below_set (j := 0) (v := .int .i64 2) (below_step HB.out H.out) GB1.out) GB1.out)
  clear pb0 pb1 f0 f1 VG VB B1 HB H
  generalize (wt.setCell ⟨g1, 0, none⟩ (.int .i64 2)).setCell ⟨g1, 1, none⟩ (.slice Ag lg.length cg) = W3 at B19 VG9 VB9 HB9 ⊢
  have B1 := B19; have HB := HB9; have KG := Aside0.mk (Kd.V_reads' VG9.out).2.2; have ZG := Aside0.mk (Kd.V_reads' VG9.out).2.1; have KB := Aside0.mk (Kd.V_reads' VB9.out).2.2; have ZB := Aside0.mk (Kd.V_reads' VB9.out).2.1
  clear B19 HB9 VG9 VB9
  have H := Aside0.mk (Below.refl W3.heap.size W3)
  go_upto_region 5 with (go_at_call 79; refine Calls.mono (mac_New.calls 1 1 le 0 _ FN1.out) ?_; rintro e wq ⟨v, rfl, h0, hb⟩; obtain ⟨Af, cf, rfl⟩ := Kd.S_slice h0; have Zf := Aside0.mk (Kd.R_reads' (Kd.S_R h0)).2.1; have H9 := Aside0.mk (below_step H.out hb); clear H; have H := H9; clear H9; clear h0 hb)
  have B69 := Aside0.mk (blk_new wq (.cells #[.int .i64 1, .slice Af le.length cf] 105))
  have B19 := Aside0.mk (blk_alloc (blk_below B1.out H.out) (.cells #[.int .i64 1, .slice Af le.length cf] 105))
  have KG9 := Aside0.mk (Kd.C_alloc (Kd.C_below KG.out H.out) (.cells #[.int .i64 1, .slice Af le.length cf] 105))
  have KB9 := Aside0.mk (Kd.C_alloc (Kd.C_below KB.out H.out) (.cells #[.int .i64 1, .slice Af le.length cf] 105))
  have HB9 := Aside0.mk (below_alloc (below_step HB.out H.out) (.cells #[.int .i64 1, .slice Af le.length cf] 105))
  have GB69 := Aside0.mk (below_step HB.out H.out).size
  generalize wq.alloc (.cells #[.int .i64 1, .slice Af le.length cf] 105) = W4 at B69 B19 KG9 KB9 HB9 ⊢
  generalize wq.heap.size = g6 at B69 GB69 ⊢
  clear H
  have B6 := B69
  clear B69
  clear B1
  have B1 := B19
  clear B19
  clear KG
  have KG := KG9
  clear KG9
  clear KB
  have KB := KB9
  clear KB9
  clear HB
  have HB := HB9
  clear HB9
  have GB6 := GB69
  clear GB69
  have H := Aside0.mk (Below.refl W4.heap.size W4)
  obtain ⟨pa0, pa1⟩ := ma.c2 (blk_below B6.out H.out)
  go_upto_region 6 with (first
    | ((with_reducible refine gate_dst (N := 40) rfl ?_); (try (refine gate_guard (by rfl) ?_; dsimp only)); refine V_const (base := _) (e := 5) (t := 22) (N' := 40) ?hg ?hd ?ho2 ?hlt Try.underlying22 Try.underlying5 (xs := [107]) (ok := fun _ => True) ?hr ?hg2 trivial (Below.refl _ _) (Nat.le_refl _) (by simp) ?_; (case hd => rfl); (case hg => rfl); (case ho2 => rfl); (case hg2 => rfl); (case hlt => exact of_decide_eq_true rfl); (case hr => first | (go_simp; done) | (go_simp; rfl)); intro v wl ho hb _ _; rw [← LK.out] at ho; obtain ⟨Ak, ck, rfl⟩ := Kd.V_slice ho; have Kk := Aside0.mk (Kd.V_reads' ho).2.2; have Zk := Aside0.mk (Kd.V_reads' ho).2.1; have H9 := Aside0.mk (below_step H.out hb); clear H; have H := H9; clear H9; clear ho hb)
    | ((with_reducible refine gate_dst (N := 42) rfl ?_); (try (refine gate_guard (by rfl) ?_; dsimp only)); refine V_const (base := _) (e := 5) (t := 22) (N' := 42) ?hg ?hd ?ho2 ?hlt Try.underlying22 Try.underlying5 (xs := [109]) (ok := fun _ => True) ?hr ?hg2 trivial (Below.refl _ _) (Nat.le_refl _) (by simp) ?_; (case hd => rfl); (case hg => rfl); (case ho2 => rfl); (case hg2 => rfl); (case hlt => exact of_decide_eq_true rfl); (case hr => first | (go_simp; done) | (go_simp; rfl)); intro v wl ho hb _ _; rw [← LM.out] at ho; obtain ⟨Am, cm, rfl⟩ := Kd.V_slice ho; have Km := Aside0.mk (Kd.V_reads' ho).2.2; have Zm := Aside0.mk (Kd.V_reads' ho).2.1; have H9 := Aside0.mk (below_step H.out hb); clear H; have H := H9; clear H9; have Kk9 := Aside0.mk (Kd.C_below Kk.out hb); clear Kk; have Kk := Kk9; clear Kk9; clear ho hb)
    | (go_at_call 82; refine Calls.mono (mac_Tag.calls k 1 (fun _ => False) _ _ le _ _ lk _ _ lm 1 lc td 0 _ (ma.nilV HLE.out _ _ _ _) Kk.out Zk.out Km.out Zm.out (Kd.C_below HL0.out (below_step HB.out H.out)) (Kd.C_below HL1.out (below_step HB.out H.out)) FT2.out) ?_; rintro e wu ⟨v1, v2, rfl, h1, h2, hb⟩; obtain ⟨Ac, cc, rfl⟩ := Kd.V_slice h1; obtain ⟨Ad, cd, rfl⟩ := Kd.V_slice h2; have KD := Aside0.mk (Kd.V_reads' h2).2.2; have ZD := Aside0.mk (Kd.V_reads' h2).2.1; have H9 := Aside0.mk (below_step H.out hb); clear H; have H := H9; clear H9; clear h1 h2 hb Kk Km))
  clear pa0 pa1
  have B89 := Aside0.mk (blk_new wu (.cells #[.int .i64 1, .slice Ac lc.length cc] 105))
  have B19 := Aside0.mk (blk_alloc (blk_below B1.out H.out) (.cells #[.int .i64 1, .slice Ac lc.length cc] 105))
  have B69 := Aside0.mk (blk_alloc (blk_below B6.out H.out) (.cells #[.int .i64 1, .slice Ac lc.length cc] 105))
  have KG9 := Aside0.mk (Kd.C_alloc (Kd.C_below KG.out H.out) (.cells #[.int .i64 1, .slice Ac lc.length cc] 105))
  have KB9 := Aside0.mk (Kd.C_alloc (Kd.C_below KB.out H.out) (.cells #[.int .i64 1, .slice Ac lc.length cc] 105))
  have KD9 := Aside0.mk (Kd.C_alloc KD.out (.cells #[.int .i64 1, .slice Ac lc.length cc] 105))
  have HB9 := Aside0.mk (below_alloc (below_step HB.out H.out) (.cells #[.int .i64 1, .slice Ac lc.length cc] 105))
  have GB89 := Aside0.mk (below_step HB.out H.out).size
  generalize wu.alloc (.cells #[.int .i64 1, .slice Ac lc.length cc] 105) = W5 at B89 B19 B69 KG9 KB9 KD9 HB9 ⊢
  generalize wu.heap.size = g8 at B89 GB89 ⊢
  clear H
  have B8 := B89
  clear B89
  clear B1
  have B1 := B19
  clear B19
  clear B6
  have B6 := B69
  clear B69
  clear KG
  have KG := KG9
  clear KG9
  clear KB
  have KB := KB9
  clear KB9
  clear KD
  have KD := KD9
  clear KD9
  clear HB
  have HB := HB9
  clear HB9
  have GB8 := GB89
  clear GB89
  have H := Aside0.mk (Below.refl W5.heap.size W5)
  go_upto_region 7 with (go_at_call 79; refine Calls.mono (mac_New.calls 3 0 le 1 _ FN3.out) ?_; rintro e wv ⟨v, rfl, h0, hb⟩; obtain ⟨Ah, ch, rfl⟩ := Kd.S_slice h0; have Zh := Aside0.mk (Kd.R_reads' (Kd.S_R h0)).2.1; have H9 := Aside0.mk (below_step H.out hb); clear H; have H := H9; clear H9; clear h0 hb)
  have B119 := Aside0.mk (blk_new wv (.cells #[.int .i64 0, .slice Ah le.length ch] 105))
  have B19 := Aside0.mk (blk_alloc (blk_below B1.out H.out) (.cells #[.int .i64 0, .slice Ah le.length ch] 105))
  have B69 := Aside0.mk (blk_alloc (blk_below B6.out H.out) (.cells #[.int .i64 0, .slice Ah le.length ch] 105))
  have KG9 := Aside0.mk (Kd.C_alloc (Kd.C_below KG.out H.out) (.cells #[.int .i64 0, .slice Ah le.length ch] 105))
  have KB9 := Aside0.mk (Kd.C_alloc (Kd.C_below KB.out H.out) (.cells #[.int .i64 0, .slice Ah le.length ch] 105))
  have KD9 := Aside0.mk (Kd.C_alloc (Kd.C_below KD.out H.out) (.cells #[.int .i64 0, .slice Ah le.length ch] 105))
  have HB9 := Aside0.mk (below_alloc (below_step HB.out H.out) (.cells #[.int .i64 0, .slice Ah le.length ch] 105))
  have GB119 := Aside0.mk (below_step HB.out H.out).size
  generalize wv.alloc (.cells #[.int .i64 0, .slice Ah le.length ch] 105) = W6 at B119 B19 B69 KG9 KB9 KD9 HB9 ⊢
  generalize wv.heap.size = g11 at B119 GB119 ⊢
  clear H
  have B11 := B119
  clear B119
  clear B1
  have B1 := B19
  clear B19
  clear B6
  have B6 := B69
  clear B69
  clear KG
  have KG := KG9
  clear KG9
  clear KB
  have KB := KB9
  clear KB9
  clear KD
  have KD := KD9
  clear KD9
  clear HB
  have HB := HB9
  clear HB9
  have GB11 := GB119
  clear GB119
  have H := Aside0.mk (Below.refl W6.heap.size W6)
  obtain ⟨pa0, pa1⟩ := ma.c2 (blk_below B1.out H.out); obtain ⟨pb0, pb1⟩ := ma.c2 (blk_below B6.out H.out)
  have FG2 := FF2.out; have FG3 := FF3.out; have FG4 := FF4.out
  rw [LK.out, LM.out] at FG2 FG4
  rw [LK.out, LN.out] at FG3
  have F2 := Aside0.mk FG2; have F3 := Aside0.mk FG3; have F4 := Aside0.mk FG4
  clear FG2 FG3 FG4 FF2 FF3 FF4
  have cv1 := ma.conv; have cv2 := ma.conv2
  go_wp2_with fail
  refine Calls.mono (mac_Fits.calls k 2 _ _ lg _ _ [107] _ _ [109] _ _ tb true _ ?h1a ?h2a ?h3a ?h4a ?h5a ?h6a ?h7a ?h8a ?h9a ?h10a ?h11a) ?_
  case h1a => exact (Kd.C_below KG.out (below_alloc (below_alloc H.out _) _))
  case h2a => exact ZG.out
  case h3a => exact ma.lit (x := 107) (fr := (1, 2)) (blk_alloc (blk_new _ _) _)
  case h4a => exact by decide
  case h5a => exact ma.lit (x := 109) (fr := (1, 2)) (mk.two _ _ _).2.1
  case h6a => exact by decide
  case h7a => exact (Kd.C_below KB.out (below_alloc (below_alloc H.out _) _))
  case h8a => exact ZB.out
  case h9a => exact (Kd.C_below HL0.out (below_alloc (below_alloc (below_step HB.out H.out) _) _))
  case h10a => exact (Kd.C_below HL1.out (below_alloc (below_alloc (below_step HB.out H.out) _) _))
  case h11a => exact F2.out
  rintro e wf2 ⟨rfl, hb⟩
  have H9 := Aside0.mk (below_step (below_alloc (below_alloc H.out _) _) hb)
  clear H hb
  have H := H9
  clear H9
  obtain ⟨qa0, qa1⟩ := ma.c2 (blk_below B1.out H.out); obtain ⟨qb0, qb1⟩ := ma.c2 (blk_below B6.out H.out)
  go_wp2_with fail
  refine Calls.mono (mac_Fits.calls k 2 _ _ lg _ _ [107] _ _ [110] _ _ tb false _ ?h1b ?h2b ?h3b ?h4b ?h5b ?h6b ?h7b ?h8b ?h9b ?h10b ?h11b) ?_
  case h1b => exact (Kd.C_below KG.out (below_alloc (below_alloc H.out _) _))
  case h2b => exact ZG.out
  case h3b => exact ma.lit (x := 107) (fr := (1, 2)) (blk_alloc (blk_new _ _) _)
  case h4b => exact by decide
  case h5b => exact ma.lit (x := 110) (fr := (1, 2)) (mk.two _ _ _).2.1
  case h6b => exact by decide
  case h7b => exact (Kd.C_below KB.out (below_alloc (below_alloc H.out _) _))
  case h8b => exact ZB.out
  case h9b => exact (Kd.C_below HL0.out (below_alloc (below_alloc (below_step HB.out H.out) _) _))
  case h10b => exact (Kd.C_below HL1.out (below_alloc (below_alloc (below_step HB.out H.out) _) _))
  case h11b => exact F3.out
  rintro e wf3 ⟨rfl, hb⟩
  have H9 := Aside0.mk (below_step (below_alloc (below_alloc H.out _) _) hb)
  clear H hb
  have H := H9
  clear H9
  obtain ⟨ra0, ra1⟩ := ma.c2 (blk_below B1.out H.out); obtain ⟨rb0, rb1⟩ := ma.c2 (blk_below B6.out H.out)
  go_wp2_with fail
  refine Calls.mono (mac_Fits.calls k 1 _ _ le _ _ [107] _ _ [109] _ _ td true _ ?h1c ?h2c ?h3c ?h4c ?h5c ?h6c ?h7c ?h8c ?h9c ?h10c ?h11c) ?_
  case h1c => exact (ma.nil HLE.out _ _)
  case h2c => exact Zf.out
  case h3c => exact ma.lit (x := 107) (fr := (1, 2)) (blk_alloc (blk_new _ _) _)
  case h4c => exact by decide
  case h5c => exact ma.lit (x := 109) (fr := (1, 2)) (mk.two _ _ _).2.1
  case h6c => exact by decide
  case h7c => exact (Kd.C_below KD.out (below_alloc (below_alloc H.out _) _))
  case h8c => exact ZD.out
  case h9c => exact (Kd.C_below HL0.out (below_alloc (below_alloc (below_step HB.out H.out) _) _))
  case h10c => exact (Kd.C_below HL1.out (below_alloc (below_alloc (below_step HB.out H.out) _) _))
  case h11c => exact F4.out
  rintro e wf4 ⟨rfl, hb⟩
  have H9 := Aside0.mk (below_step (below_alloc (below_alloc H.out _) _) hb)
  clear H hb
  have H := H9
  clear H9
  obtain ⟨sa0, sa1⟩ := ma.c2 (blk_below B1.out H.out); obtain ⟨sb0, sb1⟩ := ma.c2 (blk_below B6.out H.out)
  go_wp2_with fail
  refine Calls.mono (mac_Right.calls 2 _ _ lg true _ (Kd.C_below KG.out H.out) ZG.out FR.out) ?_
  rintro e wr ⟨rfl, hb⟩
  have H9 := Aside0.mk (below_step H.out hb)
  go_wp2_with fail
  go_ret
  exact ⟨rfl, below_step HB.out H9.out⟩
def wristbandlaw06_awake.f (k : Nat) : Option Bool := (mac_Tag.f k 2 [] [107] [109]).bind fun x => (mac_Tag.f k 1 [] [107] [109]).bind fun y => (mac_New.f 2).bind fun a => (mac_New.f 1).bind fun b => (mac_New.f 3).bind fun c => if (x.1 = 2 ∧ x.2.1.length = 1 ∧ x.2.2.1.length = 8 ∧ x.2.2.2 = 0 ∧ y.1 = 1 ∧ y.2.2.1.length = 8 ∧ y.2.2.2 = 0 ∧ a.1 = 2 ∧ a.2.1.length = 0 ∧ a.2.2 = 0 ∧ b.1 = 1 ∧ b.2.1.length = 0 ∧ b.2.2 = 0 ∧ c.1 = 0 ∧ c.2.1.length = 0 ∧ c.2.2 = 1 ∧ mac_Right.f 2 x.2.1 = some true) ∧ mac_Fits.f k 2 [] [107] [109] [0, 0, 0, 0, 0, 0, 0, 1] = some false ∧ mac_Fits.f k 2 x.2.1 [107] [109] x.2.2.1 = some true ∧ mac_Fits.f k 2 x.2.1 [107] [110] x.2.2.1 = some false ∧ mac_Fits.f k 1 [] [107] [109] y.2.2.1 = some true then some true else none
theorem wristbandlaw06_awake.mono : ∀ k, LeO (wristbandlaw06_awake.f k) (wristbandlaw06_awake.f (k + 1)) := by
  intro k r h
  obtain ⟨x, hx, h⟩ := Option.bind_eq_some_iff.1 h
  obtain ⟨y, hy, h⟩ := Option.bind_eq_some_iff.1 h
  obtain ⟨a, ha, h⟩ := Option.bind_eq_some_iff.1 h
  obtain ⟨b, hb, h⟩ := Option.bind_eq_some_iff.1 h
  obtain ⟨c, hc, h⟩ := Option.bind_eq_some_iff.1 h
  split at h
  · rename_i h1
    obtain ⟨h1, h2, h3, h4, h5⟩ := h1
    refine Option.bind_eq_some_iff.2 ⟨x, mac_Tag.mono _ _ _ _ k _ hx, Option.bind_eq_some_iff.2 ⟨y, mac_Tag.mono _ _ _ _ k _ hy, Option.bind_eq_some_iff.2 ⟨a, ha, Option.bind_eq_some_iff.2 ⟨b, hb, Option.bind_eq_some_iff.2 ⟨c, hc, ?_⟩⟩⟩⟩⟩
    rw [if_pos ⟨h1, mac_Fits.mono _ _ _ _ _ k _ h2, mac_Fits.mono _ _ _ _ _ k _ h3, mac_Fits.mono _ _ _ _ _ k _ h4, mac_Fits.mono _ _ _ _ _ k _ h5⟩]
    exact h
  · cases h
theorem wristbandlaw06_awake.calls (k : Nat) (r : Bool) (w : World) (hL0_ : Kd.C (Kd.int .u32) w (some ⟨1, 0, none⟩) 64 shaK) (hL1_ : Kd.C (Kd.int .u32) w (some ⟨0, 0, none⟩) 8 shaF) (h : wristbandlaw06_awake.f k = some r) :
    Calls Try.prog 78 #[] w fun e w' => e = .returned (.bool r) ∧ Below w.heap.size w w' := by
  obtain ⟨⟨x1, x2, x3, x4⟩, hx, h⟩ := Option.bind_eq_some_iff.1 h
  obtain ⟨⟨y1, y2, y3, y4⟩, hy, h⟩ := Option.bind_eq_some_iff.1 h
  obtain ⟨⟨a1, a2, a3⟩, ha, h⟩ := Option.bind_eq_some_iff.1 h
  obtain ⟨⟨b1, b2, b3⟩, hb, h⟩ := Option.bind_eq_some_iff.1 h
  obtain ⟨⟨c1, c2, c3⟩, hc, h⟩ := Option.bind_eq_some_iff.1 h
  split at h
  · rename_i h1
    obtain ⟨⟨q1, q2, q3, q4, q5, q6, q7, q8, q9, q10, q11, q12, q13, q14, q15, q16, q17⟩, h2, h3, h4, h5⟩ := h1
    dsimp only at q1 q2 q3 q4 q5 q6 q7 q8 q9 q10 q11 q12 q13 q14 q15 q16 q17 h2 h3 h4 h5
    obtain rfl := Option.some.inj h
    obtain rfl := List.eq_nil_of_length_eq_zero q9
    obtain rfl := List.eq_nil_of_length_eq_zero q12
    obtain rfl := List.eq_nil_of_length_eq_zero q15
    subst q1 q4 q5 q7 q8 q10 q11 q13 q14 q16
    exact ma.awake k [] x2 y2 [107] [109] [110] [0, 0, 0, 0, 0, 0, 0, 1] x3 y3 rfl rfl rfl rfl rfl ha hb hc h2 hx hy h3 h4 h5 q17 q3 q6 q2 w hL0_ hL1_
  · cases h

end Go.Proofs.Ytnpkhkhlofkbhaa.PMacSymbolic
