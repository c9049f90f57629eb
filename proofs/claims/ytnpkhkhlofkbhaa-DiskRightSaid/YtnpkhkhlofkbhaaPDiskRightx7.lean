-- made by a program of this session (its printer) out of what Lean prints of the given program
import Derived.Test.YtnpkhkhlofkbhaaPDiskRightx0
import Derived.Test.YtnpkhkhlofkbhaaPDiskRightx1
import Derived.Test.YtnpkhkhlofkbhaaPDiskRightx3
import Derived.Test.YtnpkhkhlofkbhaaPDiskRightx5
import Derived.Test.YtnpkhkhlofkbhaaPDiskRightx6
namespace Go.Proofs.Ytnpkhkhlofkbhaa.PDiskRight
open Go.RowKit Go.Proofs.YtnpkhkhlofkbhaaW.PrintWords Go.Proofs.YtnpkhkhlofkbhaaW.PrintLast Go.Proofs.YtnpkhkhlofkbhaaW.PrintMore
attribute [local go_sem] max2_int min2_int max_two min_two max_three min_three max_four min_four   -- for this text's walks alone
set_option linter.unusedVariables false
set_option linter.unusedSimpArgs false

/-! ### wristbandlaw17_DiskRight: function 13 -/
theorem rt.row {w W : World} {A : Option Addr} {c : Nat} {l : List Int} (hr : Kd.C (Kd.int .u8) w A l.length l) (hc : l.length ≤ c) : Kd.V (Kd.int .u8) 5 w 0 (fun k => k ∉ ([] : List Nat)) (.slice A l.length c) l :=
  Kd.V_mono (Kd.V_mk (base := 0) hc (Kd.C_F (Kd.heap_int .u8) hr)) (fun _ _ => List.not_mem_nil)
set_option maxHeartbeats 16000000 in
set_option maxRecDepth 100000 in
theorem rt.long (A0 : Option Addr) (c0 : Nat) (l0 : List Int) (s0 : Int) (A1 : Option Addr) (c1 : Nat) (l1 : List Int) (s1 fu ke : Int) (dn : Bool) (k : Int) (Ab : Option Addr) (cb : Nat) (b : List Int) (a3 : Int) (w : World) (hr0 : Kd.C (Kd.int .u8) w A0 l0.length l0) (hc0 : l0.length ≤ c0) (hr1 : Kd.C (Kd.int .u8) w A1 l1.length l1) (hc1 : l1.length ≤ c1) (hrb : Kd.C (Kd.int .u8) w Ab b.length b) (hcb : b.length ≤ cb) (hs : wristbandref17_Short.f l0 s0 l1 s1 fu ke dn = some false) :
    Calls Try.prog 13 #[.agg #[.slice A0 l0.length c0, .int .i64 s0, .slice A1 l1.length c1, .int .i64 s1, .int .i64 fu, .int .i64 ke, .bool dn], .int .i64 k, .slice Ab b.length cb, .int .i64 a3] w fun e w' => e = .returned (.bool true) ∧ Below w.heap.size w w' := by
  have HSH := Aside0.mk hs
  clear hs
  have HD0 := Aside0.mk (Dvar.mk' (G := []) (s0 := s0) (s1 := s1) (fu := fu) (ke := ke) (dn := dn) (fun k hk => absurd hk List.not_mem_nil) (rt.row (W := w) hr0 hc0) (rt.row (W := w) hr1 hc1))
  have HB0 := Aside0.mk (below_alloc (Below.refl w.heap.size w) (.cells #[.slice A0 l0.length c0, .int .i64 s0, .slice A1 l1.length c1, .int .i64 s1, .int .i64 fu, .int .i64 ke, .bool dn] 74))
  have HRB := Aside0.mk hrb
  have HCB := Aside0.mk hcb
  clear hr0 hc0 hr1 hc1 hrb hcb
  go_enter Try.func13, Try.ntmps13
  go_upto_region 1 with fail
  generalize w.alloc (.cells #[.slice A0 l0.length c0, .int .i64 s0, .slice A1 l1.length c1, .int .i64 s1, .int .i64 fu, .int .i64 ke, .bool dn] 74) = W0 at HD0 HB0 ⊢
  obtain ⟨g, hg⟩ : ∃ g, g = w.heap.size := ⟨_, rfl⟩
  have HG := Aside0.mk (Nat.le_of_eq hg.symm)
  rw [← hg] at HD0 ⊢
  clear hg
  go_wp2_with (first
    | (go_at_call 53; refine Calls.mono (wristbandlaw17_awake.calls true _ rfl) ?_; rintro e w2 ⟨rfl, hb⟩; have hd := HD0.out.below hb; have HD1 := Aside0.mk hd; have HB1 := Aside0.mk (below_step HB0.out hb); have qa0 := (blk_cell hd.b 0).trans rfl; have fqa0 := blk_frozen hd.b 0; have qa1 := (blk_cell hd.b 1).trans rfl; have fqa1 := blk_frozen hd.b 1; have qa2 := (blk_cell hd.b 2).trans rfl; have fqa2 := blk_frozen hd.b 2; have qa3 := (blk_cell hd.b 3).trans rfl; have fqa3 := blk_frozen hd.b 3; have qa4 := (blk_cell hd.b 4).trans rfl; have fqa4 := blk_frozen hd.b 4; have qa5 := (blk_cell hd.b 5).trans rfl; have fqa5 := blk_frozen hd.b 5; have qa6 := (blk_cell hd.b 6).trans rfl; have fqa6 := blk_frozen hd.b 6; clear hb hd)
    | (go_at_call 60; refine Calls.mono (wristbandref17_Short.calls _ _ l0 s0 _ _ l1 s1 fu ke dn false _ (Kd.V_reads' HD1.out.r0).2.2 (Kd.V_reads' HD1.out.r0).2.1 (Kd.V_reads' HD1.out.r1).2.2 (Kd.V_reads' HD1.out.r1).2.1 HSH.out) ?_; rintro e w3 ⟨rfl, hb⟩; have hd := HD1.out.below hb; have HD2 := Aside0.mk hd; have HB2 := Aside0.mk (below_step HB1.out hb); have qb0 := (blk_cell hd.b 0).trans rfl; have fqb0 := blk_frozen hd.b 0; have qb1 := (blk_cell hd.b 1).trans rfl; have fqb1 := blk_frozen hd.b 1; have qb2 := (blk_cell hd.b 2).trans rfl; have fqb2 := blk_frozen hd.b 2; have qb3 := (blk_cell hd.b 3).trans rfl; have fqb3 := blk_frozen hd.b 3; have qb4 := (blk_cell hd.b 4).trans rfl; have fqb4 := blk_frozen hd.b 4; have qb5 := (blk_cell hd.b 5).trans rfl; have fqb5 := blk_frozen hd.b 5; have qb6 := (blk_cell hd.b 6).trans rfl; have fqb6 := blk_frozen hd.b 6; clear hb hd))
  go_ret
  exact ⟨rfl, HB2.out⟩
set_option maxHeartbeats 16000000 in
set_option maxRecDepth 100000 in
theorem rt.much (A0 : Option Addr) (c0 : Nat) (l0 : List Int) (s0 : Int) (A1 : Option Addr) (c1 : Nat) (l1 : List Int) (s1 fu ke : Int) (dn : Bool) (k : Int) (Ab : Option Addr) (cb : Nat) (b : List Int) (a3 : Int) (w : World) (hr0 : Kd.C (Kd.int .u8) w A0 l0.length l0) (hc0 : l0.length ≤ c0) (hr1 : Kd.C (Kd.int .u8) w A1 l1.length l1) (hc1 : l1.length ≤ c1) (hrb : Kd.C (Kd.int .u8) w Ab b.length b) (hcb : b.length ≤ cb) (hs : wristbandref17_Short.f l0 s0 l1 s1 fu ke dn = some true) (hl : 3000 < b.length) :
    Calls Try.prog 13 #[.agg #[.slice A0 l0.length c0, .int .i64 s0, .slice A1 l1.length c1, .int .i64 s1, .int .i64 fu, .int .i64 ke, .bool dn], .int .i64 k, .slice Ab b.length cb, .int .i64 a3] w fun e w' => e = .returned (.bool true) ∧ Below w.heap.size w w' := by
  have b1 : decide (3000 < b.length) = true := decide_eq_true hl
  have b2 : decide (3000 < (b.length : Int)) = true := decide_eq_true (by omega)
  clear hl
  have HSH := Aside0.mk hs
  clear hs
  have HD0 := Aside0.mk (Dvar.mk' (G := []) (s0 := s0) (s1 := s1) (fu := fu) (ke := ke) (dn := dn) (fun k hk => absurd hk List.not_mem_nil) (rt.row (W := w) hr0 hc0) (rt.row (W := w) hr1 hc1))
  have HB0 := Aside0.mk (below_alloc (Below.refl w.heap.size w) (.cells #[.slice A0 l0.length c0, .int .i64 s0, .slice A1 l1.length c1, .int .i64 s1, .int .i64 fu, .int .i64 ke, .bool dn] 74))
  have HRB := Aside0.mk hrb
  have HCB := Aside0.mk hcb
  clear hr0 hc0 hr1 hc1 hrb hcb
  go_enter Try.func13, Try.ntmps13
  go_upto_region 1 with fail
  generalize w.alloc (.cells #[.slice A0 l0.length c0, .int .i64 s0, .slice A1 l1.length c1, .int .i64 s1, .int .i64 fu, .int .i64 ke, .bool dn] 74) = W0 at HD0 HB0 ⊢
  obtain ⟨g, hg⟩ : ∃ g, g = w.heap.size := ⟨_, rfl⟩
  have HG := Aside0.mk (Nat.le_of_eq hg.symm)
  rw [← hg] at HD0 ⊢
  clear hg
  go_wp2_with (first
    | (go_at_call 53; refine Calls.mono (wristbandlaw17_awake.calls true _ rfl) ?_; rintro e w2 ⟨rfl, hb⟩; have hd := HD0.out.below hb; have HD1 := Aside0.mk hd; have HB1 := Aside0.mk (below_step HB0.out hb); have qa0 := (blk_cell hd.b 0).trans rfl; have fqa0 := blk_frozen hd.b 0; have qa1 := (blk_cell hd.b 1).trans rfl; have fqa1 := blk_frozen hd.b 1; have qa2 := (blk_cell hd.b 2).trans rfl; have fqa2 := blk_frozen hd.b 2; have qa3 := (blk_cell hd.b 3).trans rfl; have fqa3 := blk_frozen hd.b 3; have qa4 := (blk_cell hd.b 4).trans rfl; have fqa4 := blk_frozen hd.b 4; have qa5 := (blk_cell hd.b 5).trans rfl; have fqa5 := blk_frozen hd.b 5; have qa6 := (blk_cell hd.b 6).trans rfl; have fqa6 := blk_frozen hd.b 6; clear hb hd)
    | (go_at_call 60; refine Calls.mono (wristbandref17_Short.calls _ _ l0 s0 _ _ l1 s1 fu ke dn true _ (Kd.V_reads' HD1.out.r0).2.2 (Kd.V_reads' HD1.out.r0).2.1 (Kd.V_reads' HD1.out.r1).2.2 (Kd.V_reads' HD1.out.r1).2.1 HSH.out) ?_; rintro e w3 ⟨rfl, hb⟩; have hd := HD1.out.below hb; have HD2 := Aside0.mk hd; have HB2 := Aside0.mk (below_step HB1.out hb); have qb0 := (blk_cell hd.b 0).trans rfl; have fqb0 := blk_frozen hd.b 0; have qb1 := (blk_cell hd.b 1).trans rfl; have fqb1 := blk_frozen hd.b 1; have qb2 := (blk_cell hd.b 2).trans rfl; have fqb2 := blk_frozen hd.b 2; have qb3 := (blk_cell hd.b 3).trans rfl; have fqb3 := blk_frozen hd.b 3; have qb4 := (blk_cell hd.b 4).trans rfl; have fqb4 := blk_frozen hd.b 4; have qb5 := (blk_cell hd.b 5).trans rfl; have fqb5 := blk_frozen hd.b 5; have qb6 := (blk_cell hd.b 6).trans rfl; have fqb6 := blk_frozen hd.b 6; clear hb hd))
  go_ret
  exact ⟨rfl, HB2.out⟩
set_option maxHeartbeats 16000000 in
set_option maxRecDepth 100000 in
theorem rt.main (A0 : Option Addr) (c0 : Nat) (l0 : List Int) (s0 : Int) (A1 : Option Addr) (c1 : Nat) (l1 : List Int) (s1 fu ke : Int) (dn : Bool) (k : Int) (Ab : Option Addr) (cb : Nat) (b : List Int) (a3 : Int) (w : World) (hr0 : Kd.C (Kd.int .u8) w A0 l0.length l0) (hc0 : l0.length ≤ c0) (hr1 : Kd.C (Kd.int .u8) w A1 l1.length l1) (hc1 : l1.length ≤ c1) (hrb : Kd.C (Kd.int .u8) w Ab b.length b) (hcb : b.length ≤ cb) (hs : wristbandref17_Short.f l0 s0 l1 s1 fu ke dn = some true) (hl : ¬ 3000 < b.length) (kk : Nat) (z0_0 : List Int) (t0_0 : Int) (z1_0 : List Int) (t1_0 : Int) (fu_0 : Int) (ke_0 : Int) (dn_0 : Bool) (er_0 : Int) (z0_1 : List Int) (t0_1 : Int) (z1_1 : List Int) (t1_1 : Int) (fu_1 : Int) (ke_1 : Int) (dn_1 : Bool) (er_1 : Int) (z0_2 : List Int) (t0_2 : Int) (z1_2 : List Int) (t1_2 : Int) (fu_2 : Int) (ke_2 : Int) (dn_2 : Bool) (er_2 : Int) (z0_3 : List Int) (t0_3 : Int) (z1_3 : List Int) (t1_3 : Int) (fu_3 : Int) (ke_3 : Int) (dn_3 : Bool) (er_3 : Int) (z0_4 : List Int) (t0_4 : Int) (z1_4 : List Int) (t1_4 : Int) (fu_4 : Int) (ke_4 : Int) (dn_4 : Bool) (er_4 : Int) (ye : List Int) (rgt : Bool) (FP0 : disk_Write.f l0 s0 l1 s1 fu ke dn k b = some (z0_0, t0_0, z1_0, t1_0, fu_0, ke_0, dn_0, er_0)) (FR0 : wristbandref17_Write.f l0 s0 l1 s1 fu ke dn k b = some (z0_0, t0_0, z1_0, t1_0, fu_0, ke_0, dn_0, er_0)) (FS0 : wristbandref17_Same.f kk z0_0 t0_0 z1_0 t1_0 fu_0 ke_0 dn_0 z0_0 t0_0 z1_0 t1_0 fu_0 ke_0 dn_0 = some true) (FP1 : disk_Sync.f l0 s0 l1 s1 fu ke dn k = some (z0_1, t0_1, z1_1, t1_1, fu_1, ke_1, dn_1, er_1)) (FR1 : wristbandref17_Sync.f l0 s0 l1 s1 fu ke dn k = some (z0_1, t0_1, z1_1, t1_1, fu_1, ke_1, dn_1, er_1)) (FS1 : wristbandref17_Same.f kk z0_1 t0_1 z1_1 t1_1 fu_1 ke_1 dn_1 z0_1 t0_1 z1_1 t1_1 fu_1 ke_1 dn_1 = some true) (FP2 : disk_Wipe.f l0 s0 l1 s1 fu ke dn k = some (z0_2, t0_2, z1_2, t1_2, fu_2, ke_2, dn_2, er_2)) (FR2 : wristbandref17_Wipe.f l0 s0 l1 s1 fu ke dn k = some (z0_2, t0_2, z1_2, t1_2, fu_2, ke_2, dn_2, er_2)) (FS2 : wristbandref17_Same.f kk z0_2 t0_2 z1_2 t1_2 fu_2 ke_2 dn_2 z0_2 t0_2 z1_2 t1_2 fu_2 ke_2 dn_2 = some true) (FP3 : disk_Crash.f kk l0 s0 l1 s1 fu ke dn a3 = some (z0_3, t0_3, z1_3, t1_3, fu_3, ke_3, dn_3, er_3)) (FR3 : wristbandref17_Crash.f kk l0 s0 l1 s1 fu ke dn a3 = some (z0_3, t0_3, z1_3, t1_3, fu_3, ke_3, dn_3, er_3)) (FS3 : wristbandref17_Same.f kk z0_3 t0_3 z1_3 t1_3 fu_3 ke_3 dn_3 z0_3 t0_3 z1_3 t1_3 fu_3 ke_3 dn_3 = some true) (FP4 : disk_Rise.f l0 s0 l1 s1 fu ke dn = some (z0_4, t0_4, z1_4, t1_4, fu_4, ke_4, dn_4, er_4)) (FR4 : wristbandref17_Rise.f kk l0 s0 l1 s1 fu ke dn = some (z0_4, t0_4, z1_4, t1_4, fu_4, ke_4, dn_4, er_4)) (FS4 : wristbandref17_Same.f kk z0_4 t0_4 z1_4 t1_4 fu_4 ke_4 dn_4 z0_4 t0_4 z1_4 t1_4 fu_4 ke_4 dn_4 = some true) (FT : disk_Right.f l0 s0 l1 s1 fu ke dn = some rgt) (FU : wristbandref17_Right.f kk l0 s0 l1 s1 fu ke dn = some rgt) (FN : disk_New.f = some (ye, 0, ye, 0, -1, 0, false)) (FM : wristbandref17_Same.f kk ye 0 ye 0 (-1) 0 false [] 0 [] 0 (-1) 0 false = some true) :
    Calls Try.prog 13 #[.agg #[.slice A0 l0.length c0, .int .i64 s0, .slice A1 l1.length c1, .int .i64 s1, .int .i64 fu, .int .i64 ke, .bool dn], .int .i64 k, .slice Ab b.length cb, .int .i64 a3] w fun e w' => e = .returned (.bool true) ∧ Below w.heap.size w w' := by
  have b1 : decide (3000 < b.length) = false := decide_eq_false hl
  have b2 : decide (3000 < (b.length : Int)) = false := decide_eq_false (by omega)
  clear hl
  have HSH := Aside0.mk hs
  clear hs
  have HFP0 := Aside0.mk FP0
  have HFR0 := Aside0.mk FR0
  have HFS0 := Aside0.mk FS0
  have HFP1 := Aside0.mk FP1
  have HFR1 := Aside0.mk FR1
  have HFS1 := Aside0.mk FS1
  have HFP2 := Aside0.mk FP2
  have HFR2 := Aside0.mk FR2
  have HFS2 := Aside0.mk FS2
  have HFP3 := Aside0.mk FP3
  have HFR3 := Aside0.mk FR3
  have HFS3 := Aside0.mk FS3
  have HFP4 := Aside0.mk FP4
  have HFR4 := Aside0.mk FR4
  have HFS4 := Aside0.mk FS4
  have HFT := Aside0.mk FT
  have HFU := Aside0.mk FU
  have HFN := Aside0.mk FN
  have HFM := Aside0.mk FM
  clear FP0 FR0 FS0 FP1 FR1 FS1 FP2 FR2 FS2 FP3 FR3 FS3 FP4 FR4 FS4 FT FU FN FM
  have HD0 := Aside0.mk (Dvar.mk' (G := []) (s0 := s0) (s1 := s1) (fu := fu) (ke := ke) (dn := dn) (fun k hk => absurd hk List.not_mem_nil) (rt.row (W := w) hr0 hc0) (rt.row (W := w) hr1 hc1))
  have HB0 := Aside0.mk (below_alloc (Below.refl w.heap.size w) (.cells #[.slice A0 l0.length c0, .int .i64 s0, .slice A1 l1.length c1, .int .i64 s1, .int .i64 fu, .int .i64 ke, .bool dn] 74))
  have HRB := Aside0.mk hrb
  have HCB := Aside0.mk hcb
  clear hr0 hc0 hr1 hc1 hrb hcb
  go_enter Try.func13, Try.ntmps13
  go_upto_region 1 with fail
  generalize w.alloc (.cells #[.slice A0 l0.length c0, .int .i64 s0, .slice A1 l1.length c1, .int .i64 s1, .int .i64 fu, .int .i64 ke, .bool dn] 74) = W0 at HD0 HB0 ⊢
  obtain ⟨g, hg⟩ : ∃ g, g = w.heap.size := ⟨_, rfl⟩
  have HG := Aside0.mk (Nat.le_of_eq hg.symm)
  rw [← hg] at HD0 ⊢
  clear hg
  go_upto_region 5 with (first
    | (go_at_call 53; refine Calls.mono (wristbandlaw17_awake.calls true _ rfl) ?_; rintro e w2 ⟨rfl, hb⟩; have hd := HD0.out.below hb; have HD1 := Aside0.mk hd; have HB1 := Aside0.mk (below_step HB0.out hb); have qa0 := (blk_cell hd.b 0).trans rfl; have fqa0 := blk_frozen hd.b 0; have qa1 := (blk_cell hd.b 1).trans rfl; have fqa1 := blk_frozen hd.b 1; have qa2 := (blk_cell hd.b 2).trans rfl; have fqa2 := blk_frozen hd.b 2; have qa3 := (blk_cell hd.b 3).trans rfl; have fqa3 := blk_frozen hd.b 3; have qa4 := (blk_cell hd.b 4).trans rfl; have fqa4 := blk_frozen hd.b 4; have qa5 := (blk_cell hd.b 5).trans rfl; have fqa5 := blk_frozen hd.b 5; have qa6 := (blk_cell hd.b 6).trans rfl; have fqa6 := blk_frozen hd.b 6; clear hb hd)
    | (go_at_call 60; refine Calls.mono (wristbandref17_Short.calls _ _ l0 s0 _ _ l1 s1 fu ke dn true _ (Kd.V_reads' HD1.out.r0).2.2 (Kd.V_reads' HD1.out.r0).2.1 (Kd.V_reads' HD1.out.r1).2.2 (Kd.V_reads' HD1.out.r1).2.1 HSH.out) ?_; rintro e w3 ⟨rfl, hb⟩; have hd := HD1.out.below hb; have HD2 := Aside0.mk hd; have HB2 := Aside0.mk (below_step HB1.out hb); have qb0 := (blk_cell hd.b 0).trans rfl; have fqb0 := blk_frozen hd.b 0; have qb1 := (blk_cell hd.b 1).trans rfl; have fqb1 := blk_frozen hd.b 1; have qb2 := (blk_cell hd.b 2).trans rfl; have fqb2 := blk_frozen hd.b 2; have qb3 := (blk_cell hd.b 3).trans rfl; have fqb3 := blk_frozen hd.b 3; have qb4 := (blk_cell hd.b 4).trans rfl; have fqb4 := blk_frozen hd.b 4; have qb5 := (blk_cell hd.b 5).trans rfl; have fqb5 := blk_frozen hd.b 5; have qb6 := (blk_cell hd.b 6).trans rfl; have fqb6 := blk_frozen hd.b 6; clear hb hd))
  clear qa0 fqa0 qa1 fqa1 qa2 fqa2 qa3 fqa3 qa4 fqa4 qa5 fqa5 qa6 fqa6
  clear HD0 HB0 HD1 HB1 HSH
  have HD := HD2
  have HB := HB2
  clear HD2 HB2
  go_upto_region 6 with (go_at_call 55; refine Calls.mono (disk_Write.calls (fun k => k ∉ [g]) _ _ l0 s0 (fun k => k ∉ [g]) _ _ l1 s1 fu ke dn k _ _ b z0_0 t0_0 z1_0 t1_0 fu_0 ke_0 dn_0 er_0 _ (Dvar.any HD.out.r0) (Dvar.any HD.out.r1) (Kd.C_below HRB.out HB.out) HCB.out HFP0.out) ?_; rintro e wp ⟨v0, v2, rfl, h0, h2, hb⟩; obtain ⟨P0, p0, rfl⟩ := Kd.V_slice h0; obtain ⟨P2, p2, rfl⟩ := Kd.V_slice h2; have hd := HD.out.below hb; have HX9 := Aside0.mk (Dvar.mk' (s0 := t0_0) (s1 := t1_0) (fu := fu_0) (ke := ke_0) (dn := dn_0) hd.lt (Dvar.res HD.out.lt h0) (Dvar.res HD.out.lt h2)); have HD9 := Aside0.mk (hd.more (.cells #[.slice P0 z0_0.length p0, .int .i64 t0_0, .slice P2 z1_0.length p2, .int .i64 t1_0, .int .i64 fu_0, .int .i64 ke_0, .bool dn_0] 74)); have HB9 := Aside0.mk (below_alloc (below_step HB.out hb) (.cells #[.slice P0 z0_0.length p0, .int .i64 t0_0, .slice P2 z1_0.length p2, .int .i64 t1_0, .int .i64 fu_0, .int .i64 ke_0, .bool dn_0] 74)); have HGX := Aside0.mk (below_step HB.out hb).size; have HNX := Aside0.mk (Nat.ne_of_gt (hd.lt g hd.m)); clear h0 h2 hb hd)
  generalize wp.alloc (.cells #[.slice P0 z0_0.length p0, .int .i64 t0_0, .slice P2 z1_0.length p2, .int .i64 t1_0, .int .i64 fu_0, .int .i64 ke_0, .bool dn_0] 74) = WA at HX9 HD9 HB9 ⊢
  generalize wp.heap.size = gx at HX9 HD9 HGX HNX ⊢
  clear qb0 fqb0 qb1 fqb1 qb2 fqb2 qb3 fqb3 qb4 fqb4 qb5 fqb5 qb6 fqb6
  clear HD HB
  have HD := HD9
  have HX := HX9
  have HB := HB9
  clear HD9 HX9 HB9
  have qd00 := (blk_cell HD.out.b 0).trans rfl; have fqd00 := blk_frozen HD.out.b 0; have qd01 := (blk_cell HD.out.b 1).trans rfl; have fqd01 := blk_frozen HD.out.b 1; have qd02 := (blk_cell HD.out.b 2).trans rfl; have fqd02 := blk_frozen HD.out.b 2; have qd03 := (blk_cell HD.out.b 3).trans rfl; have fqd03 := blk_frozen HD.out.b 3; have qd04 := (blk_cell HD.out.b 4).trans rfl; have fqd04 := blk_frozen HD.out.b 4; have qd05 := (blk_cell HD.out.b 5).trans rfl; have fqd05 := blk_frozen HD.out.b 5; have qd06 := (blk_cell HD.out.b 6).trans rfl; have fqd06 := blk_frozen HD.out.b 6
  go_upto_region 7 with (go_at_call 61; refine Calls.mono (wristbandref17_Write.calls (fun k => k ∉ [gx, g]) _ _ l0 s0 (fun k => k ∉ [gx, g]) _ _ l1 s1 fu ke dn k _ _ b z0_0 t0_0 z1_0 t1_0 fu_0 ke_0 dn_0 er_0 _ (Dvar.any HD.out.r0) (Dvar.any HD.out.r1) (Kd.C_below HRB.out HB.out) HCB.out HFR0.out) ?_; rintro e wp ⟨v0, v2, rfl, h0, h2, hb⟩; obtain ⟨P0, p0, rfl⟩ := Kd.V_slice h0; obtain ⟨P2, p2, rfl⟩ := Kd.V_slice h2; have hd := HD.out.below hb; have hx := HX.out.below hb; have HY9 := Aside0.mk (Dvar.mk' (s0 := t0_0) (s1 := t1_0) (fu := fu_0) (ke := ke_0) (dn := dn_0) hd.lt (Dvar.res HD.out.lt h0) (Dvar.res HD.out.lt h2)); have HD9 := Aside0.mk (hd.more (.cells #[.slice P0 z0_0.length p0, .int .i64 t0_0, .slice P2 z1_0.length p2, .int .i64 t1_0, .int .i64 fu_0, .int .i64 ke_0, .bool dn_0] 74)); have HX9 := Aside0.mk (hx.more (.cells #[.slice P0 z0_0.length p0, .int .i64 t0_0, .slice P2 z1_0.length p2, .int .i64 t1_0, .int .i64 fu_0, .int .i64 ke_0, .bool dn_0] 74)); have HB9 := Aside0.mk (below_alloc (below_step HB.out hb) (.cells #[.slice P0 z0_0.length p0, .int .i64 t0_0, .slice P2 z1_0.length p2, .int .i64 t1_0, .int .i64 fu_0, .int .i64 ke_0, .bool dn_0] 74)); have HGY := Aside0.mk (below_step HB.out hb).size; have HNY := Aside0.mk (Nat.ne_of_gt (hd.lt g hd.m)); have HNYX := Aside0.mk (Nat.ne_of_gt (hx.lt gx hx.m)); clear h0 h2 hb hd hx)
  generalize wp.alloc (.cells #[.slice P0 z0_0.length p0, .int .i64 t0_0, .slice P2 z1_0.length p2, .int .i64 t1_0, .int .i64 fu_0, .int .i64 ke_0, .bool dn_0] 74) = WB at HX9 HD9 HY9 HB9 ⊢
  generalize wp.heap.size = gy at HX9 HD9 HY9 HGY HNY HNYX ⊢
  clear qd00 fqd00 qd01 fqd01 qd02 fqd02 qd03 fqd03 qd04 fqd04 qd05 fqd05 qd06 fqd06
  clear HD HB HX
  have HD := HD9
  have HX := HX9
  have HY := HY9
  have HB := HB9
  clear HD9 HX9 HY9 HB9
  have qd10 := (blk_cell HD.out.b 0).trans rfl; have fqd10 := blk_frozen HD.out.b 0; have qd11 := (blk_cell HD.out.b 1).trans rfl; have fqd11 := blk_frozen HD.out.b 1; have qd12 := (blk_cell HD.out.b 2).trans rfl; have fqd12 := blk_frozen HD.out.b 2; have qd13 := (blk_cell HD.out.b 3).trans rfl; have fqd13 := blk_frozen HD.out.b 3; have qd14 := (blk_cell HD.out.b 4).trans rfl; have fqd14 := blk_frozen HD.out.b 4; have qd15 := (blk_cell HD.out.b 5).trans rfl; have fqd15 := blk_frozen HD.out.b 5; have qd16 := (blk_cell HD.out.b 6).trans rfl; have fqd16 := blk_frozen HD.out.b 6
  have qx10 := (blk_cell HX.out.b 0).trans rfl; have fqx10 := blk_frozen HX.out.b 0; have qx11 := (blk_cell HX.out.b 1).trans rfl; have fqx11 := blk_frozen HX.out.b 1; have qx12 := (blk_cell HX.out.b 2).trans rfl; have fqx12 := blk_frozen HX.out.b 2; have qx13 := (blk_cell HX.out.b 3).trans rfl; have fqx13 := blk_frozen HX.out.b 3; have qx14 := (blk_cell HX.out.b 4).trans rfl; have fqx14 := blk_frozen HX.out.b 4; have qx15 := (blk_cell HX.out.b 5).trans rfl; have fqx15 := blk_frozen HX.out.b 5; have qx16 := (blk_cell HX.out.b 6).trans rfl; have fqx16 := blk_frozen HX.out.b 6
  have qy10 := (blk_cell HY.out.b 0).trans rfl; have fqy10 := blk_frozen HY.out.b 0; have qy11 := (blk_cell HY.out.b 1).trans rfl; have fqy11 := blk_frozen HY.out.b 1; have qy12 := (blk_cell HY.out.b 2).trans rfl; have fqy12 := blk_frozen HY.out.b 2; have qy13 := (blk_cell HY.out.b 3).trans rfl; have fqy13 := blk_frozen HY.out.b 3; have qy14 := (blk_cell HY.out.b 4).trans rfl; have fqy14 := blk_frozen HY.out.b 4; have qy15 := (blk_cell HY.out.b 5).trans rfl; have fqy15 := blk_frozen HY.out.b 5; have qy16 := (blk_cell HY.out.b 6).trans rfl; have fqy16 := blk_frozen HY.out.b 6
  go_upto_region 9 with (go_at_call 62; (with_reducible refine Calls.mono (wristbandref17_Same.calls kk _ _ z0_0 t0_0 _ _ z1_0 t1_0 fu_0 ke_0 dn_0 _ _ z0_0 t0_0 _ _ z1_0 t1_0 fu_0 ke_0 dn_0 true _ (Kd.V_reads' HX.out.r0).2.2 (Kd.V_reads' HX.out.r0).2.1 (Kd.V_reads' HX.out.r1).2.2 (Kd.V_reads' HX.out.r1).2.1 (Kd.V_reads' HY.out.r0).2.2 (Kd.V_reads' HY.out.r0).2.1 (Kd.V_reads' HY.out.r1).2.2 (Kd.V_reads' HY.out.r1).2.1 HFS0.out) ?_); rintro e ws ⟨rfl, hb⟩; have hd := HD.out.below hb; have HD9 := Aside0.mk hd; have hx := HX.out.below hb; have HX9 := Aside0.mk hx; have hy := HY.out.below hb; have HY9 := Aside0.mk hy; have HB9 := Aside0.mk (below_step HB.out hb); have qd20 := (blk_cell hd.b 0).trans rfl; have fqd20 := blk_frozen hd.b 0; have qd21 := (blk_cell hd.b 1).trans rfl; have fqd21 := blk_frozen hd.b 1; have qd22 := (blk_cell hd.b 2).trans rfl; have fqd22 := blk_frozen hd.b 2; have qd23 := (blk_cell hd.b 3).trans rfl; have fqd23 := blk_frozen hd.b 3; have qd24 := (blk_cell hd.b 4).trans rfl; have fqd24 := blk_frozen hd.b 4; have qd25 := (blk_cell hd.b 5).trans rfl; have fqd25 := blk_frozen hd.b 5; have qd26 := (blk_cell hd.b 6).trans rfl; have fqd26 := blk_frozen hd.b 6; have qx20 := (blk_cell hx.b 0).trans rfl; have fqx20 := blk_frozen hx.b 0; have qx21 := (blk_cell hx.b 1).trans rfl; have fqx21 := blk_frozen hx.b 1; have qx22 := (blk_cell hx.b 2).trans rfl; have fqx22 := blk_frozen hx.b 2; have qx23 := (blk_cell hx.b 3).trans rfl; have fqx23 := blk_frozen hx.b 3; have qx24 := (blk_cell hx.b 4).trans rfl; have fqx24 := blk_frozen hx.b 4; have qx25 := (blk_cell hx.b 5).trans rfl; have fqx25 := blk_frozen hx.b 5; have qx26 := (blk_cell hx.b 6).trans rfl; have fqx26 := blk_frozen hx.b 6; have qy20 := (blk_cell hy.b 0).trans rfl; have fqy20 := blk_frozen hy.b 0; have qy21 := (blk_cell hy.b 1).trans rfl; have fqy21 := blk_frozen hy.b 1; have qy22 := (blk_cell hy.b 2).trans rfl; have fqy22 := blk_frozen hy.b 2; have qy23 := (blk_cell hy.b 3).trans rfl; have fqy23 := blk_frozen hy.b 3; have qy24 := (blk_cell hy.b 4).trans rfl; have fqy24 := blk_frozen hy.b 4; have qy25 := (blk_cell hy.b 5).trans rfl; have fqy25 := blk_frozen hy.b 5; have qy26 := (blk_cell hy.b 6).trans rfl; have fqy26 := blk_frozen hy.b 6; clear hb hd hx hy)
  clear qd10 fqd10 qd11 fqd11 qd12 fqd12 qd13 fqd13 qd14 fqd14 qd15 fqd15 qd16 fqd16
  clear qx10 fqx10 qx11 fqx11 qx12 fqx12 qx13 fqx13 qx14 fqx14 qx15 fqx15 qx16 fqx16
  clear qy10 fqy10 qy11 fqy11 qy12 fqy12 qy13 fqy13 qy14 fqy14 qy15 fqy15 qy16 fqy16
  clear HD
  have HD := HD9
  clear HD9
  clear HX
  have HX := HX9
  clear HX9
  clear HY
  have HY := HY9
  clear HY9
  clear HB
  have HB := HB9
  clear HB9
  go_upto_region 10 with (go_at_call 56; refine Calls.mono (disk_Sync.calls (fun k => k ∉ [gy, gx, g]) _ _ l0 s0 (fun k => k ∉ [gy, gx, g]) _ _ l1 s1 fu ke dn k z0_1 t0_1 z1_1 t1_1 fu_1 ke_1 dn_1 er_1 _ (Dvar.any HD.out.r0) (Dvar.any HD.out.r1) HFP1.out) ?_; rintro e wp ⟨v0, v2, rfl, h0, h2, hb⟩; obtain ⟨P0, p0, rfl⟩ := Kd.V_slice h0; obtain ⟨P2, p2, rfl⟩ := Kd.V_slice h2; have hv := HX.out.below hb; have HX9 := Aside0.mk (Dvar.put7 (t0 := t0_1) (t1 := t1_1) (fu' := fu_1) (ke' := ke_1) (dn' := dn_1) hv (Dvar.res HX.out.lt h0) (Dvar.res HX.out.lt h2)); have HD9 := Aside0.mk ((HD.out.below hb).far7 (a := (.slice P0 z0_1.length p0)) (b := (.int .i64 t0_1)) (c := (.slice P2 z1_1.length p2)) (e := (.int .i64 t1_1)) (f := (.int .i64 fu_1)) (x := (.int .i64 ke_1)) (y := (.bool dn_1)) hv.m (Ne.symm HNX.out)); have HY9 := Aside0.mk ((HY.out.below hb).far7 (a := (.slice P0 z0_1.length p0)) (b := (.int .i64 t0_1)) (c := (.slice P2 z1_1.length p2)) (e := (.int .i64 t1_1)) (f := (.int .i64 fu_1)) (x := (.int .i64 ke_1)) (y := (.bool dn_1)) hv.m HNYX.out); have HB9 := Aside0.mk (Dvar.b7 (a := (.slice P0 z0_1.length p0)) (b := (.int .i64 t0_1)) (c := (.slice P2 z1_1.length p2)) (e := (.int .i64 t1_1)) (f := (.int .i64 fu_1)) (x := (.int .i64 ke_1)) (y := (.bool dn_1)) (below_step HB.out hb) HGX.out); have qs20 := (blk_cell hv.b 0).trans rfl; have fqs20 := blk_frozen hv.b 0; have qs21 := (blk_cell hv.b 1).trans rfl; have fqs21 := blk_frozen hv.b 1; have qs22 := (blk_cell hv.b 2).trans rfl; have fqs22 := blk_frozen hv.b 2; have qs23 := (blk_cell hv.b 3).trans rfl; have fqs23 := blk_frozen hv.b 3; have qs24 := (blk_cell hv.b 4).trans rfl; have fqs24 := blk_frozen hv.b 4; have qs25 := (blk_cell hv.b 5).trans rfl; have fqs25 := blk_frozen hv.b 5; have qs26 := (blk_cell hv.b 6).trans rfl; have fqs26 := blk_frozen hv.b 6; clear h0 h2 hb hv)
  generalize ((((((wp.setCell ⟨gx, 0, none⟩ (.slice P0 z0_1.length p0)).setCell ⟨gx, 1, none⟩ (.int .i64 t0_1)).setCell ⟨gx, 2, none⟩ (.slice P2 z1_1.length p2)).setCell ⟨gx, 3, none⟩ (.int .i64 t1_1)).setCell ⟨gx, 4, none⟩ (.int .i64 fu_1)).setCell ⟨gx, 5, none⟩ (.int .i64 ke_1)).setCell ⟨gx, 6, none⟩ (.bool dn_1) = Wg1_0 at HD9 HX9 HY9 HB9 ⊢
  clear qd20 fqd20 qd21 fqd21 qd22 fqd22 qd23 fqd23 qd24 fqd24 qd25 fqd25 qd26 fqd26
  clear qx20 fqx20 qx21 fqx21 qx22 fqx22 qx23 fqx23 qx24 fqx24 qx25 fqx25 qx26 fqx26
  clear qy20 fqy20 qy21 fqy21 qy22 fqy22 qy23 fqy23 qy24 fqy24 qy25 fqy25 qy26 fqy26
  clear qs20 fqs20 qs21 fqs21 qs22 fqs22 qs23 fqs23 qs24 fqs24 qs25 fqs25 qs26 fqs26
  clear HD
  have HD := HD9
  clear HD9
  clear HX
  have HX := HX9
  clear HX9
  clear HY
  have HY := HY9
  clear HY9
  clear HB
  have HB := HB9
  clear HB9
  have qd30 := (blk_cell HD.out.b 0).trans rfl; have fqd30 := blk_frozen HD.out.b 0; have qd31 := (blk_cell HD.out.b 1).trans rfl; have fqd31 := blk_frozen HD.out.b 1; have qd32 := (blk_cell HD.out.b 2).trans rfl; have fqd32 := blk_frozen HD.out.b 2; have qd33 := (blk_cell HD.out.b 3).trans rfl; have fqd33 := blk_frozen HD.out.b 3; have qd34 := (blk_cell HD.out.b 4).trans rfl; have fqd34 := blk_frozen HD.out.b 4; have qd35 := (blk_cell HD.out.b 5).trans rfl; have fqd35 := blk_frozen HD.out.b 5; have qd36 := (blk_cell HD.out.b 6).trans rfl; have fqd36 := blk_frozen HD.out.b 6
  have qx30 := (blk_cell HX.out.b 0).trans rfl; have fqx30 := blk_frozen HX.out.b 0; have qx31 := (blk_cell HX.out.b 1).trans rfl; have fqx31 := blk_frozen HX.out.b 1; have qx32 := (blk_cell HX.out.b 2).trans rfl; have fqx32 := blk_frozen HX.out.b 2; have qx33 := (blk_cell HX.out.b 3).trans rfl; have fqx33 := blk_frozen HX.out.b 3; have qx34 := (blk_cell HX.out.b 4).trans rfl; have fqx34 := blk_frozen HX.out.b 4; have qx35 := (blk_cell HX.out.b 5).trans rfl; have fqx35 := blk_frozen HX.out.b 5; have qx36 := (blk_cell HX.out.b 6).trans rfl; have fqx36 := blk_frozen HX.out.b 6
  have qy30 := (blk_cell HY.out.b 0).trans rfl; have fqy30 := blk_frozen HY.out.b 0; have qy31 := (blk_cell HY.out.b 1).trans rfl; have fqy31 := blk_frozen HY.out.b 1; have qy32 := (blk_cell HY.out.b 2).trans rfl; have fqy32 := blk_frozen HY.out.b 2; have qy33 := (blk_cell HY.out.b 3).trans rfl; have fqy33 := blk_frozen HY.out.b 3; have qy34 := (blk_cell HY.out.b 4).trans rfl; have fqy34 := blk_frozen HY.out.b 4; have qy35 := (blk_cell HY.out.b 5).trans rfl; have fqy35 := blk_frozen HY.out.b 5; have qy36 := (blk_cell HY.out.b 6).trans rfl; have fqy36 := blk_frozen HY.out.b 6
  go_upto_region 11 with (go_at_call 63; refine Calls.mono (wristbandref17_Sync.calls (fun k => k ∉ [gy, gx, g]) _ _ l0 s0 (fun k => k ∉ [gy, gx, g]) _ _ l1 s1 fu ke dn k z0_1 t0_1 z1_1 t1_1 fu_1 ke_1 dn_1 er_1 _ (Dvar.any HD.out.r0) (Dvar.any HD.out.r1) HFR1.out) ?_; rintro e wp ⟨v0, v2, rfl, h0, h2, hb⟩; obtain ⟨P0, p0, rfl⟩ := Kd.V_slice h0; obtain ⟨P2, p2, rfl⟩ := Kd.V_slice h2; have hv := HY.out.below hb; have HY9 := Aside0.mk (Dvar.put7 (t0 := t0_1) (t1 := t1_1) (fu' := fu_1) (ke' := ke_1) (dn' := dn_1) hv (Dvar.res HY.out.lt h0) (Dvar.res HY.out.lt h2)); have HD9 := Aside0.mk ((HD.out.below hb).far7 (a := (.slice P0 z0_1.length p0)) (b := (.int .i64 t0_1)) (c := (.slice P2 z1_1.length p2)) (e := (.int .i64 t1_1)) (f := (.int .i64 fu_1)) (x := (.int .i64 ke_1)) (y := (.bool dn_1)) hv.m (Ne.symm HNY.out)); have HX9 := Aside0.mk ((HX.out.below hb).far7 (a := (.slice P0 z0_1.length p0)) (b := (.int .i64 t0_1)) (c := (.slice P2 z1_1.length p2)) (e := (.int .i64 t1_1)) (f := (.int .i64 fu_1)) (x := (.int .i64 ke_1)) (y := (.bool dn_1)) hv.m (Ne.symm HNYX.out)); have HB9 := Aside0.mk (Dvar.b7 (a := (.slice P0 z0_1.length p0)) (b := (.int .i64 t0_1)) (c := (.slice P2 z1_1.length p2)) (e := (.int .i64 t1_1)) (f := (.int .i64 fu_1)) (x := (.int .i64 ke_1)) (y := (.bool dn_1)) (below_step HB.out hb) HGY.out); have qs30 := (blk_cell hv.b 0).trans rfl; have fqs30 := blk_frozen hv.b 0; have qs31 := (blk_cell hv.b 1).trans rfl; have fqs31 := blk_frozen hv.b 1; have qs32 := (blk_cell hv.b 2).trans rfl; have fqs32 := blk_frozen hv.b 2; have qs33 := (blk_cell hv.b 3).trans rfl; have fqs33 := blk_frozen hv.b 3; have qs34 := (blk_cell hv.b 4).trans rfl; have fqs34 := blk_frozen hv.b 4; have qs35 := (blk_cell hv.b 5).trans rfl; have fqs35 := blk_frozen hv.b 5; have qs36 := (blk_cell hv.b 6).trans rfl; have fqs36 := blk_frozen hv.b 6; clear h0 h2 hb hv)
  generalize ((((((wp.setCell ⟨gy, 0, none⟩ (.slice P0 z0_1.length p0)).setCell ⟨gy, 1, none⟩ (.int .i64 t0_1)).setCell ⟨gy, 2, none⟩ (.slice P2 z1_1.length p2)).setCell ⟨gy, 3, none⟩ (.int .i64 t1_1)).setCell ⟨gy, 4, none⟩ (.int .i64 fu_1)).setCell ⟨gy, 5, none⟩ (.int .i64 ke_1)).setCell ⟨gy, 6, none⟩ (.bool dn_1) = Wg1_1 at HD9 HX9 HY9 HB9 ⊢
  clear qd30 fqd30 qd31 fqd31 qd32 fqd32 qd33 fqd33 qd34 fqd34 qd35 fqd35 qd36 fqd36
  clear qx30 fqx30 qx31 fqx31 qx32 fqx32 qx33 fqx33 qx34 fqx34 qx35 fqx35 qx36 fqx36
  clear qy30 fqy30 qy31 fqy31 qy32 fqy32 qy33 fqy33 qy34 fqy34 qy35 fqy35 qy36 fqy36
  clear qs30 fqs30 qs31 fqs31 qs32 fqs32 qs33 fqs33 qs34 fqs34 qs35 fqs35 qs36 fqs36
  clear HD
  have HD := HD9
  clear HD9
  clear HX
  have HX := HX9
  clear HX9
  clear HY
  have HY := HY9
  clear HY9
  clear HB
  have HB := HB9
  clear HB9
  have qd40 := (blk_cell HD.out.b 0).trans rfl; have fqd40 := blk_frozen HD.out.b 0; have qd41 := (blk_cell HD.out.b 1).trans rfl; have fqd41 := blk_frozen HD.out.b 1; have qd42 := (blk_cell HD.out.b 2).trans rfl; have fqd42 := blk_frozen HD.out.b 2; have qd43 := (blk_cell HD.out.b 3).trans rfl; have fqd43 := blk_frozen HD.out.b 3; have qd44 := (blk_cell HD.out.b 4).trans rfl; have fqd44 := blk_frozen HD.out.b 4; have qd45 := (blk_cell HD.out.b 5).trans rfl; have fqd45 := blk_frozen HD.out.b 5; have qd46 := (blk_cell HD.out.b 6).trans rfl; have fqd46 := blk_frozen HD.out.b 6
  have qx40 := (blk_cell HX.out.b 0).trans rfl; have fqx40 := blk_frozen HX.out.b 0; have qx41 := (blk_cell HX.out.b 1).trans rfl; have fqx41 := blk_frozen HX.out.b 1; have qx42 := (blk_cell HX.out.b 2).trans rfl; have fqx42 := blk_frozen HX.out.b 2; have qx43 := (blk_cell HX.out.b 3).trans rfl; have fqx43 := blk_frozen HX.out.b 3; have qx44 := (blk_cell HX.out.b 4).trans rfl; have fqx44 := blk_frozen HX.out.b 4; have qx45 := (blk_cell HX.out.b 5).trans rfl; have fqx45 := blk_frozen HX.out.b 5; have qx46 := (blk_cell HX.out.b 6).trans rfl; have fqx46 := blk_frozen HX.out.b 6
  have qy40 := (blk_cell HY.out.b 0).trans rfl; have fqy40 := blk_frozen HY.out.b 0; have qy41 := (blk_cell HY.out.b 1).trans rfl; have fqy41 := blk_frozen HY.out.b 1; have qy42 := (blk_cell HY.out.b 2).trans rfl; have fqy42 := blk_frozen HY.out.b 2; have qy43 := (blk_cell HY.out.b 3).trans rfl; have fqy43 := blk_frozen HY.out.b 3; have qy44 := (blk_cell HY.out.b 4).trans rfl; have fqy44 := blk_frozen HY.out.b 4; have qy45 := (blk_cell HY.out.b 5).trans rfl; have fqy45 := blk_frozen HY.out.b 5; have qy46 := (blk_cell HY.out.b 6).trans rfl; have fqy46 := blk_frozen HY.out.b 6
  go_upto_region 13 with (go_at_call 62; (with_reducible refine Calls.mono (wristbandref17_Same.calls kk _ _ z0_1 t0_1 _ _ z1_1 t1_1 fu_1 ke_1 dn_1 _ _ z0_1 t0_1 _ _ z1_1 t1_1 fu_1 ke_1 dn_1 true _ (Kd.V_reads' HX.out.r0).2.2 (Kd.V_reads' HX.out.r0).2.1 (Kd.V_reads' HX.out.r1).2.2 (Kd.V_reads' HX.out.r1).2.1 (Kd.V_reads' HY.out.r0).2.2 (Kd.V_reads' HY.out.r0).2.1 (Kd.V_reads' HY.out.r1).2.2 (Kd.V_reads' HY.out.r1).2.1 HFS1.out) ?_); rintro e ws ⟨rfl, hb⟩; have hd := HD.out.below hb; have HD9 := Aside0.mk hd; have hx := HX.out.below hb; have HX9 := Aside0.mk hx; have hy := HY.out.below hb; have HY9 := Aside0.mk hy; have HB9 := Aside0.mk (below_step HB.out hb); have qd50 := (blk_cell hd.b 0).trans rfl; have fqd50 := blk_frozen hd.b 0; have qd51 := (blk_cell hd.b 1).trans rfl; have fqd51 := blk_frozen hd.b 1; have qd52 := (blk_cell hd.b 2).trans rfl; have fqd52 := blk_frozen hd.b 2; have qd53 := (blk_cell hd.b 3).trans rfl; have fqd53 := blk_frozen hd.b 3; have qd54 := (blk_cell hd.b 4).trans rfl; have fqd54 := blk_frozen hd.b 4; have qd55 := (blk_cell hd.b 5).trans rfl; have fqd55 := blk_frozen hd.b 5; have qd56 := (blk_cell hd.b 6).trans rfl; have fqd56 := blk_frozen hd.b 6; have qx50 := (blk_cell hx.b 0).trans rfl; have fqx50 := blk_frozen hx.b 0; have qx51 := (blk_cell hx.b 1).trans rfl; have fqx51 := blk_frozen hx.b 1; have qx52 := (blk_cell hx.b 2).trans rfl; have fqx52 := blk_frozen hx.b 2; have qx53 := (blk_cell hx.b 3).trans rfl; have fqx53 := blk_frozen hx.b 3; have qx54 := (blk_cell hx.b 4).trans rfl; have fqx54 := blk_frozen hx.b 4; have qx55 := (blk_cell hx.b 5).trans rfl; have fqx55 := blk_frozen hx.b 5; have qx56 := (blk_cell hx.b 6).trans rfl; have fqx56 := blk_frozen hx.b 6; have qy50 := (blk_cell hy.b 0).trans rfl; have fqy50 := blk_frozen hy.b 0; have qy51 := (blk_cell hy.b 1).trans rfl; have fqy51 := blk_frozen hy.b 1; have qy52 := (blk_cell hy.b 2).trans rfl; have fqy52 := blk_frozen hy.b 2; have qy53 := (blk_cell hy.b 3).trans rfl; have fqy53 := blk_frozen hy.b 3; have qy54 := (blk_cell hy.b 4).trans rfl; have fqy54 := blk_frozen hy.b 4; have qy55 := (blk_cell hy.b 5).trans rfl; have fqy55 := blk_frozen hy.b 5; have qy56 := (blk_cell hy.b 6).trans rfl; have fqy56 := blk_frozen hy.b 6; clear hb hd hx hy)
  clear qd40 fqd40 qd41 fqd41 qd42 fqd42 qd43 fqd43 qd44 fqd44 qd45 fqd45 qd46 fqd46
  clear qx40 fqx40 qx41 fqx41 qx42 fqx42 qx43 fqx43 qx44 fqx44 qx45 fqx45 qx46 fqx46
  clear qy40 fqy40 qy41 fqy41 qy42 fqy42 qy43 fqy43 qy44 fqy44 qy45 fqy45 qy46 fqy46
  clear HD
  have HD := HD9
  clear HD9
  clear HX
  have HX := HX9
  clear HX9
  clear HY
  have HY := HY9
  clear HY9
  clear HB
  have HB := HB9
  clear HB9
  go_upto_region 14 with (go_at_call 64; refine Calls.mono (disk_Wipe.calls (fun k => k ∉ [gy, gx, g]) _ _ l0 s0 (fun k => k ∉ [gy, gx, g]) _ _ l1 s1 fu ke dn k z0_2 t0_2 z1_2 t1_2 fu_2 ke_2 dn_2 er_2 _ (Dvar.any HD.out.r0) (Dvar.any HD.out.r1) HFP2.out) ?_; rintro e wp ⟨v0, v2, rfl, h0, h2, hb⟩; obtain ⟨P0, p0, rfl⟩ := Kd.V_slice h0; obtain ⟨P2, p2, rfl⟩ := Kd.V_slice h2; have hv := HX.out.below hb; have HX9 := Aside0.mk (Dvar.put7 (t0 := t0_2) (t1 := t1_2) (fu' := fu_2) (ke' := ke_2) (dn' := dn_2) hv (Dvar.res HX.out.lt h0) (Dvar.res HX.out.lt h2)); have HD9 := Aside0.mk ((HD.out.below hb).far7 (a := (.slice P0 z0_2.length p0)) (b := (.int .i64 t0_2)) (c := (.slice P2 z1_2.length p2)) (e := (.int .i64 t1_2)) (f := (.int .i64 fu_2)) (x := (.int .i64 ke_2)) (y := (.bool dn_2)) hv.m (Ne.symm HNX.out)); have HY9 := Aside0.mk ((HY.out.below hb).far7 (a := (.slice P0 z0_2.length p0)) (b := (.int .i64 t0_2)) (c := (.slice P2 z1_2.length p2)) (e := (.int .i64 t1_2)) (f := (.int .i64 fu_2)) (x := (.int .i64 ke_2)) (y := (.bool dn_2)) hv.m HNYX.out); have HB9 := Aside0.mk (Dvar.b7 (a := (.slice P0 z0_2.length p0)) (b := (.int .i64 t0_2)) (c := (.slice P2 z1_2.length p2)) (e := (.int .i64 t1_2)) (f := (.int .i64 fu_2)) (x := (.int .i64 ke_2)) (y := (.bool dn_2)) (below_step HB.out hb) HGX.out); have qs50 := (blk_cell hv.b 0).trans rfl; have fqs50 := blk_frozen hv.b 0; have qs51 := (blk_cell hv.b 1).trans rfl; have fqs51 := blk_frozen hv.b 1; have qs52 := (blk_cell hv.b 2).trans rfl; have fqs52 := blk_frozen hv.b 2; have qs53 := (blk_cell hv.b 3).trans rfl; have fqs53 := blk_frozen hv.b 3; have qs54 := (blk_cell hv.b 4).trans rfl; have fqs54 := blk_frozen hv.b 4; have qs55 := (blk_cell hv.b 5).trans rfl; have fqs55 := blk_frozen hv.b 5; have qs56 := (blk_cell hv.b 6).trans rfl; have fqs56 := blk_frozen hv.b 6; clear h0 h2 hb hv)
  generalize ((((((wp.setCell ⟨gx, 0, none⟩ (.slice P0 z0_2.length p0)).setCell ⟨gx, 1, none⟩ (.int .i64 t0_2)).setCell ⟨gx, 2, none⟩ (.slice P2 z1_2.length p2)).setCell ⟨gx, 3, none⟩ (.int .i64 t1_2)).setCell ⟨gx, 4, none⟩ (.int .i64 fu_2)).setCell ⟨gx, 5, none⟩ (.int .i64 ke_2)).setCell ⟨gx, 6, none⟩ (.bool dn_2) = Wg2_0 at HD9 HX9 HY9 HB9 ⊢
  clear qd50 fqd50 qd51 fqd51 qd52 fqd52 qd53 fqd53 qd54 fqd54 qd55 fqd55 qd56 fqd56
  clear qx50 fqx50 qx51 fqx51 qx52 fqx52 qx53 fqx53 qx54 fqx54 qx55 fqx55 qx56 fqx56
  clear qy50 fqy50 qy51 fqy51 qy52 fqy52 qy53 fqy53 qy54 fqy54 qy55 fqy55 qy56 fqy56
  clear qs50 fqs50 qs51 fqs51 qs52 fqs52 qs53 fqs53 qs54 fqs54 qs55 fqs55 qs56 fqs56
  clear HD
  have HD := HD9
  clear HD9
  clear HX
  have HX := HX9
  clear HX9
  clear HY
  have HY := HY9
  clear HY9
  clear HB
  have HB := HB9
  clear HB9
  have qd60 := (blk_cell HD.out.b 0).trans rfl; have fqd60 := blk_frozen HD.out.b 0; have qd61 := (blk_cell HD.out.b 1).trans rfl; have fqd61 := blk_frozen HD.out.b 1; have qd62 := (blk_cell HD.out.b 2).trans rfl; have fqd62 := blk_frozen HD.out.b 2; have qd63 := (blk_cell HD.out.b 3).trans rfl; have fqd63 := blk_frozen HD.out.b 3; have qd64 := (blk_cell HD.out.b 4).trans rfl; have fqd64 := blk_frozen HD.out.b 4; have qd65 := (blk_cell HD.out.b 5).trans rfl; have fqd65 := blk_frozen HD.out.b 5; have qd66 := (blk_cell HD.out.b 6).trans rfl; have fqd66 := blk_frozen HD.out.b 6
  have qx60 := (blk_cell HX.out.b 0).trans rfl; have fqx60 := blk_frozen HX.out.b 0; have qx61 := (blk_cell HX.out.b 1).trans rfl; have fqx61 := blk_frozen HX.out.b 1; have qx62 := (blk_cell HX.out.b 2).trans rfl; have fqx62 := blk_frozen HX.out.b 2; have qx63 := (blk_cell HX.out.b 3).trans rfl; have fqx63 := blk_frozen HX.out.b 3; have qx64 := (blk_cell HX.out.b 4).trans rfl; have fqx64 := blk_frozen HX.out.b 4; have qx65 := (blk_cell HX.out.b 5).trans rfl; have fqx65 := blk_frozen HX.out.b 5; have qx66 := (blk_cell HX.out.b 6).trans rfl; have fqx66 := blk_frozen HX.out.b 6
  have qy60 := (blk_cell HY.out.b 0).trans rfl; have fqy60 := blk_frozen HY.out.b 0; have qy61 := (blk_cell HY.out.b 1).trans rfl; have fqy61 := blk_frozen HY.out.b 1; have qy62 := (blk_cell HY.out.b 2).trans rfl; have fqy62 := blk_frozen HY.out.b 2; have qy63 := (blk_cell HY.out.b 3).trans rfl; have fqy63 := blk_frozen HY.out.b 3; have qy64 := (blk_cell HY.out.b 4).trans rfl; have fqy64 := blk_frozen HY.out.b 4; have qy65 := (blk_cell HY.out.b 5).trans rfl; have fqy65 := blk_frozen HY.out.b 5; have qy66 := (blk_cell HY.out.b 6).trans rfl; have fqy66 := blk_frozen HY.out.b 6
  go_upto_region 15 with (go_at_call 65; refine Calls.mono (wristbandref17_Wipe.calls (fun k => k ∉ [gy, gx, g]) _ _ l0 s0 (fun k => k ∉ [gy, gx, g]) _ _ l1 s1 fu ke dn k z0_2 t0_2 z1_2 t1_2 fu_2 ke_2 dn_2 er_2 _ (Dvar.any HD.out.r0) (Dvar.any HD.out.r1) HFR2.out) ?_; rintro e wp ⟨v0, v2, rfl, h0, h2, hb⟩; obtain ⟨P0, p0, rfl⟩ := Kd.V_slice h0; obtain ⟨P2, p2, rfl⟩ := Kd.V_slice h2; have hv := HY.out.below hb; have HY9 := Aside0.mk (Dvar.put7 (t0 := t0_2) (t1 := t1_2) (fu' := fu_2) (ke' := ke_2) (dn' := dn_2) hv (Dvar.res HY.out.lt h0) (Dvar.res HY.out.lt h2)); have HD9 := Aside0.mk ((HD.out.below hb).far7 (a := (.slice P0 z0_2.length p0)) (b := (.int .i64 t0_2)) (c := (.slice P2 z1_2.length p2)) (e := (.int .i64 t1_2)) (f := (.int .i64 fu_2)) (x := (.int .i64 ke_2)) (y := (.bool dn_2)) hv.m (Ne.symm HNY.out)); have HX9 := Aside0.mk ((HX.out.below hb).far7 (a := (.slice P0 z0_2.length p0)) (b := (.int .i64 t0_2)) (c := (.slice P2 z1_2.length p2)) (e := (.int .i64 t1_2)) (f := (.int .i64 fu_2)) (x := (.int .i64 ke_2)) (y := (.bool dn_2)) hv.m (Ne.symm HNYX.out)); have HB9 := Aside0.mk (Dvar.b7 (a := (.slice P0 z0_2.length p0)) (b := (.int .i64 t0_2)) (c := (.slice P2 z1_2.length p2)) (e := (.int .i64 t1_2)) (f := (.int .i64 fu_2)) (x := (.int .i64 ke_2)) (y := (.bool dn_2)) (below_step HB.out hb) HGY.out); have qs60 := (blk_cell hv.b 0).trans rfl; have fqs60 := blk_frozen hv.b 0; have qs61 := (blk_cell hv.b 1).trans rfl; have fqs61 := blk_frozen hv.b 1; have qs62 := (blk_cell hv.b 2).trans rfl; have fqs62 := blk_frozen hv.b 2; have qs63 := (blk_cell hv.b 3).trans rfl; have fqs63 := blk_frozen hv.b 3; have qs64 := (blk_cell hv.b 4).trans rfl; have fqs64 := blk_frozen hv.b 4; have qs65 := (blk_cell hv.b 5).trans rfl; have fqs65 := blk_frozen hv.b 5; have qs66 := (blk_cell hv.b 6).trans rfl; have fqs66 := blk_frozen hv.b 6; clear h0 h2 hb hv)
  generalize ((((((wp.setCell ⟨gy, 0, none⟩ (.slice P0 z0_2.length p0)).setCell ⟨gy, 1, none⟩ (.int .i64 t0_2)).setCell ⟨gy, 2, none⟩ (.slice P2 z1_2.length p2)).setCell ⟨gy, 3, none⟩ (.int .i64 t1_2)).setCell ⟨gy, 4, none⟩ (.int .i64 fu_2)).setCell ⟨gy, 5, none⟩ (.int .i64 ke_2)).setCell ⟨gy, 6, none⟩ (.bool dn_2) = Wg2_1 at HD9 HX9 HY9 HB9 ⊢
  clear qd60 fqd60 qd61 fqd61 qd62 fqd62 qd63 fqd63 qd64 fqd64 qd65 fqd65 qd66 fqd66
  clear qx60 fqx60 qx61 fqx61 qx62 fqx62 qx63 fqx63 qx64 fqx64 qx65 fqx65 qx66 fqx66
  clear qy60 fqy60 qy61 fqy61 qy62 fqy62 qy63 fqy63 qy64 fqy64 qy65 fqy65 qy66 fqy66
  clear qs60 fqs60 qs61 fqs61 qs62 fqs62 qs63 fqs63 qs64 fqs64 qs65 fqs65 qs66 fqs66
  clear HD
  have HD := HD9
  clear HD9
  clear HX
  have HX := HX9
  clear HX9
  clear HY
  have HY := HY9
  clear HY9
  clear HB
  have HB := HB9
  clear HB9
  have qd70 := (blk_cell HD.out.b 0).trans rfl; have fqd70 := blk_frozen HD.out.b 0; have qd71 := (blk_cell HD.out.b 1).trans rfl; have fqd71 := blk_frozen HD.out.b 1; have qd72 := (blk_cell HD.out.b 2).trans rfl; have fqd72 := blk_frozen HD.out.b 2; have qd73 := (blk_cell HD.out.b 3).trans rfl; have fqd73 := blk_frozen HD.out.b 3; have qd74 := (blk_cell HD.out.b 4).trans rfl; have fqd74 := blk_frozen HD.out.b 4; have qd75 := (blk_cell HD.out.b 5).trans rfl; have fqd75 := blk_frozen HD.out.b 5; have qd76 := (blk_cell HD.out.b 6).trans rfl; have fqd76 := blk_frozen HD.out.b 6
  have qx70 := (blk_cell HX.out.b 0).trans rfl; have fqx70 := blk_frozen HX.out.b 0; have qx71 := (blk_cell HX.out.b 1).trans rfl; have fqx71 := blk_frozen HX.out.b 1; have qx72 := (blk_cell HX.out.b 2).trans rfl; have fqx72 := blk_frozen HX.out.b 2; have qx73 := (blk_cell HX.out.b 3).trans rfl; have fqx73 := blk_frozen HX.out.b 3; have qx74 := (blk_cell HX.out.b 4).trans rfl; have fqx74 := blk_frozen HX.out.b 4; have qx75 := (blk_cell HX.out.b 5).trans rfl; have fqx75 := blk_frozen HX.out.b 5; have qx76 := (blk_cell HX.out.b 6).trans rfl; have fqx76 := blk_frozen HX.out.b 6
  have qy70 := (blk_cell HY.out.b 0).trans rfl; have fqy70 := blk_frozen HY.out.b 0; have qy71 := (blk_cell HY.out.b 1).trans rfl; have fqy71 := blk_frozen HY.out.b 1; have qy72 := (blk_cell HY.out.b 2).trans rfl; have fqy72 := blk_frozen HY.out.b 2; have qy73 := (blk_cell HY.out.b 3).trans rfl; have fqy73 := blk_frozen HY.out.b 3; have qy74 := (blk_cell HY.out.b 4).trans rfl; have fqy74 := blk_frozen HY.out.b 4; have qy75 := (blk_cell HY.out.b 5).trans rfl; have fqy75 := blk_frozen HY.out.b 5; have qy76 := (blk_cell HY.out.b 6).trans rfl; have fqy76 := blk_frozen HY.out.b 6
  go_upto_region 17 with (go_at_call 62; (with_reducible refine Calls.mono (wristbandref17_Same.calls kk _ _ z0_2 t0_2 _ _ z1_2 t1_2 fu_2 ke_2 dn_2 _ _ z0_2 t0_2 _ _ z1_2 t1_2 fu_2 ke_2 dn_2 true _ (Kd.V_reads' HX.out.r0).2.2 (Kd.V_reads' HX.out.r0).2.1 (Kd.V_reads' HX.out.r1).2.2 (Kd.V_reads' HX.out.r1).2.1 (Kd.V_reads' HY.out.r0).2.2 (Kd.V_reads' HY.out.r0).2.1 (Kd.V_reads' HY.out.r1).2.2 (Kd.V_reads' HY.out.r1).2.1 HFS2.out) ?_); rintro e ws ⟨rfl, hb⟩; have hd := HD.out.below hb; have HD9 := Aside0.mk hd; have hx := HX.out.below hb; have HX9 := Aside0.mk hx; have hy := HY.out.below hb; have HY9 := Aside0.mk hy; have HB9 := Aside0.mk (below_step HB.out hb); have qd80 := (blk_cell hd.b 0).trans rfl; have fqd80 := blk_frozen hd.b 0; have qd81 := (blk_cell hd.b 1).trans rfl; have fqd81 := blk_frozen hd.b 1; have qd82 := (blk_cell hd.b 2).trans rfl; have fqd82 := blk_frozen hd.b 2; have qd83 := (blk_cell hd.b 3).trans rfl; have fqd83 := blk_frozen hd.b 3; have qd84 := (blk_cell hd.b 4).trans rfl; have fqd84 := blk_frozen hd.b 4; have qd85 := (blk_cell hd.b 5).trans rfl; have fqd85 := blk_frozen hd.b 5; have qd86 := (blk_cell hd.b 6).trans rfl; have fqd86 := blk_frozen hd.b 6; have qx80 := (blk_cell hx.b 0).trans rfl; have fqx80 := blk_frozen hx.b 0; have qx81 := (blk_cell hx.b 1).trans rfl; have fqx81 := blk_frozen hx.b 1; have qx82 := (blk_cell hx.b 2).trans rfl; have fqx82 := blk_frozen hx.b 2; have qx83 := (blk_cell hx.b 3).trans rfl; have fqx83 := blk_frozen hx.b 3; have qx84 := (blk_cell hx.b 4).trans rfl; have fqx84 := blk_frozen hx.b 4; have qx85 := (blk_cell hx.b 5).trans rfl; have fqx85 := blk_frozen hx.b 5; have qx86 := (blk_cell hx.b 6).trans rfl; have fqx86 := blk_frozen hx.b 6; have qy80 := (blk_cell hy.b 0).trans rfl; have fqy80 := blk_frozen hy.b 0; have qy81 := (blk_cell hy.b 1).trans rfl; have fqy81 := blk_frozen hy.b 1; have qy82 := (blk_cell hy.b 2).trans rfl; have fqy82 := blk_frozen hy.b 2; have qy83 := (blk_cell hy.b 3).trans rfl; have fqy83 := blk_frozen hy.b 3; have qy84 := (blk_cell hy.b 4).trans rfl; have fqy84 := blk_frozen hy.b 4; have qy85 := (blk_cell hy.b 5).trans rfl; have fqy85 := blk_frozen hy.b 5; have qy86 := (blk_cell hy.b 6).trans rfl; have fqy86 := blk_frozen hy.b 6; clear hb hd hx hy)
  clear qd70 fqd70 qd71 fqd71 qd72 fqd72 qd73 fqd73 qd74 fqd74 qd75 fqd75 qd76 fqd76
  clear qx70 fqx70 qx71 fqx71 qx72 fqx72 qx73 fqx73 qx74 fqx74 qx75 fqx75 qx76 fqx76
  clear qy70 fqy70 qy71 fqy71 qy72 fqy72 qy73 fqy73 qy74 fqy74 qy75 fqy75 qy76 fqy76
  clear HD
  have HD := HD9
  clear HD9
  clear HX
  have HX := HX9
  clear HX9
  clear HY
  have HY := HY9
  clear HY9
  clear HB
  have HB := HB9
  clear HB9
  go_upto_region 18 with (go_at_call 57; refine Calls.mono (disk_Crash.calls kk (fun k => k ∉ [gy, gx, g]) _ _ l0 s0 (fun k => k ∉ [gy, gx, g]) _ _ l1 s1 fu ke dn a3 z0_3 t0_3 z1_3 t1_3 fu_3 ke_3 dn_3 er_3 _ (Dvar.any HD.out.r0) (Dvar.any HD.out.r1) HFP3.out) ?_; rintro e wp ⟨v0, v2, rfl, h0, h2, hb⟩; obtain ⟨P0, p0, rfl⟩ := Kd.V_slice h0; obtain ⟨P2, p2, rfl⟩ := Kd.V_slice h2; have hv := HX.out.below hb; have HX9 := Aside0.mk (Dvar.put7 (t0 := t0_3) (t1 := t1_3) (fu' := fu_3) (ke' := ke_3) (dn' := dn_3) hv (Dvar.res HX.out.lt h0) (Dvar.res HX.out.lt h2)); have HD9 := Aside0.mk ((HD.out.below hb).far7 (a := (.slice P0 z0_3.length p0)) (b := (.int .i64 t0_3)) (c := (.slice P2 z1_3.length p2)) (e := (.int .i64 t1_3)) (f := (.int .i64 fu_3)) (x := (.int .i64 ke_3)) (y := (.bool dn_3)) hv.m (Ne.symm HNX.out)); have HY9 := Aside0.mk ((HY.out.below hb).far7 (a := (.slice P0 z0_3.length p0)) (b := (.int .i64 t0_3)) (c := (.slice P2 z1_3.length p2)) (e := (.int .i64 t1_3)) (f := (.int .i64 fu_3)) (x := (.int .i64 ke_3)) (y := (.bool dn_3)) hv.m HNYX.out); have HB9 := Aside0.mk (Dvar.b7 (a := (.slice P0 z0_3.length p0)) (b := (.int .i64 t0_3)) (c := (.slice P2 z1_3.length p2)) (e := (.int .i64 t1_3)) (f := (.int .i64 fu_3)) (x := (.int .i64 ke_3)) (y := (.bool dn_3)) (below_step HB.out hb) HGX.out); have qs80 := (blk_cell hv.b 0).trans rfl; have fqs80 := blk_frozen hv.b 0; have qs81 := (blk_cell hv.b 1).trans rfl; have fqs81 := blk_frozen hv.b 1; have qs82 := (blk_cell hv.b 2).trans rfl; have fqs82 := blk_frozen hv.b 2; have qs83 := (blk_cell hv.b 3).trans rfl; have fqs83 := blk_frozen hv.b 3; have qs84 := (blk_cell hv.b 4).trans rfl; have fqs84 := blk_frozen hv.b 4; have qs85 := (blk_cell hv.b 5).trans rfl; have fqs85 := blk_frozen hv.b 5; have qs86 := (blk_cell hv.b 6).trans rfl; have fqs86 := blk_frozen hv.b 6; clear h0 h2 hb hv)
  generalize ((((((wp.setCell ⟨gx, 0, none⟩ (.slice P0 z0_3.length p0)).setCell ⟨gx, 1, none⟩ (.int .i64 t0_3)).setCell ⟨gx, 2, none⟩ (.slice P2 z1_3.length p2)).setCell ⟨gx, 3, none⟩ (.int .i64 t1_3)).setCell ⟨gx, 4, none⟩ (.int .i64 fu_3)).setCell ⟨gx, 5, none⟩ (.int .i64 ke_3)).setCell ⟨gx, 6, none⟩ (.bool dn_3) = Wg3_0 at HD9 HX9 HY9 HB9 ⊢
  clear qd80 fqd80 qd81 fqd81 qd82 fqd82 qd83 fqd83 qd84 fqd84 qd85 fqd85 qd86 fqd86
  clear qx80 fqx80 qx81 fqx81 qx82 fqx82 qx83 fqx83 qx84 fqx84 qx85 fqx85 qx86 fqx86
  clear qy80 fqy80 qy81 fqy81 qy82 fqy82 qy83 fqy83 qy84 fqy84 qy85 fqy85 qy86 fqy86
  clear qs80 fqs80 qs81 fqs81 qs82 fqs82 qs83 fqs83 qs84 fqs84 qs85 fqs85 qs86 fqs86
  clear HD
  have HD := HD9
  clear HD9
  clear HX
  have HX := HX9
  clear HX9
  clear HY
  have HY := HY9
  clear HY9
  clear HB
  have HB := HB9
  clear HB9
  have qd90 := (blk_cell HD.out.b 0).trans rfl; have fqd90 := blk_frozen HD.out.b 0; have qd91 := (blk_cell HD.out.b 1).trans rfl; have fqd91 := blk_frozen HD.out.b 1; have qd92 := (blk_cell HD.out.b 2).trans rfl; have fqd92 := blk_frozen HD.out.b 2; have qd93 := (blk_cell HD.out.b 3).trans rfl; have fqd93 := blk_frozen HD.out.b 3; have qd94 := (blk_cell HD.out.b 4).trans rfl; have fqd94 := blk_frozen HD.out.b 4; have qd95 := (blk_cell HD.out.b 5).trans rfl; have fqd95 := blk_frozen HD.out.b 5; have qd96 := (blk_cell HD.out.b 6).trans rfl; have fqd96 := blk_frozen HD.out.b 6
  have qx90 := (blk_cell HX.out.b 0).trans rfl; have fqx90 := blk_frozen HX.out.b 0; have qx91 := (blk_cell HX.out.b 1).trans rfl; have fqx91 := blk_frozen HX.out.b 1; have qx92 := (blk_cell HX.out.b 2).trans rfl; have fqx92 := blk_frozen HX.out.b 2; have qx93 := (blk_cell HX.out.b 3).trans rfl; have fqx93 := blk_frozen HX.out.b 3; have qx94 := (blk_cell HX.out.b 4).trans rfl; have fqx94 := blk_frozen HX.out.b 4; have qx95 := (blk_cell HX.out.b 5).trans rfl; have fqx95 := blk_frozen HX.out.b 5; have qx96 := (blk_cell HX.out.b 6).trans rfl; have fqx96 := blk_frozen HX.out.b 6
  have qy90 := (blk_cell HY.out.b 0).trans rfl; have fqy90 := blk_frozen HY.out.b 0; have qy91 := (blk_cell HY.out.b 1).trans rfl; have fqy91 := blk_frozen HY.out.b 1; have qy92 := (blk_cell HY.out.b 2).trans rfl; have fqy92 := blk_frozen HY.out.b 2; have qy93 := (blk_cell HY.out.b 3).trans rfl; have fqy93 := blk_frozen HY.out.b 3; have qy94 := (blk_cell HY.out.b 4).trans rfl; have fqy94 := blk_frozen HY.out.b 4; have qy95 := (blk_cell HY.out.b 5).trans rfl; have fqy95 := blk_frozen HY.out.b 5; have qy96 := (blk_cell HY.out.b 6).trans rfl; have fqy96 := blk_frozen HY.out.b 6
  go_upto_region 19 with (go_at_call 66; refine Calls.mono (wristbandref17_Crash.calls kk (fun k => k ∉ [gy, gx, g]) _ _ l0 s0 (fun k => k ∉ [gy, gx, g]) _ _ l1 s1 fu ke dn a3 z0_3 t0_3 z1_3 t1_3 fu_3 ke_3 dn_3 er_3 _ (Dvar.any HD.out.r0) (Dvar.any HD.out.r1) HFR3.out) ?_; rintro e wp ⟨v0, v2, rfl, h0, h2, hb⟩; obtain ⟨P0, p0, rfl⟩ := Kd.V_slice h0; obtain ⟨P2, p2, rfl⟩ := Kd.V_slice h2; have hv := HY.out.below hb; have HY9 := Aside0.mk (Dvar.put7 (t0 := t0_3) (t1 := t1_3) (fu' := fu_3) (ke' := ke_3) (dn' := dn_3) hv (Dvar.res HY.out.lt h0) (Dvar.res HY.out.lt h2)); have HD9 := Aside0.mk ((HD.out.below hb).far7 (a := (.slice P0 z0_3.length p0)) (b := (.int .i64 t0_3)) (c := (.slice P2 z1_3.length p2)) (e := (.int .i64 t1_3)) (f := (.int .i64 fu_3)) (x := (.int .i64 ke_3)) (y := (.bool dn_3)) hv.m (Ne.symm HNY.out)); have HX9 := Aside0.mk ((HX.out.below hb).far7 (a := (.slice P0 z0_3.length p0)) (b := (.int .i64 t0_3)) (c := (.slice P2 z1_3.length p2)) (e := (.int .i64 t1_3)) (f := (.int .i64 fu_3)) (x := (.int .i64 ke_3)) (y := (.bool dn_3)) hv.m (Ne.symm HNYX.out)); have HB9 := Aside0.mk (Dvar.b7 (a := (.slice P0 z0_3.length p0)) (b := (.int .i64 t0_3)) (c := (.slice P2 z1_3.length p2)) (e := (.int .i64 t1_3)) (f := (.int .i64 fu_3)) (x := (.int .i64 ke_3)) (y := (.bool dn_3)) (below_step HB.out hb) HGY.out); have qs90 := (blk_cell hv.b 0).trans rfl; have fqs90 := blk_frozen hv.b 0; have qs91 := (blk_cell hv.b 1).trans rfl; have fqs91 := blk_frozen hv.b 1; have qs92 := (blk_cell hv.b 2).trans rfl; have fqs92 := blk_frozen hv.b 2; have qs93 := (blk_cell hv.b 3).trans rfl; have fqs93 := blk_frozen hv.b 3; have qs94 := (blk_cell hv.b 4).trans rfl; have fqs94 := blk_frozen hv.b 4; have qs95 := (blk_cell hv.b 5).trans rfl; have fqs95 := blk_frozen hv.b 5; have qs96 := (blk_cell hv.b 6).trans rfl; have fqs96 := blk_frozen hv.b 6; clear h0 h2 hb hv)
  generalize ((((((wp.setCell ⟨gy, 0, none⟩ (.slice P0 z0_3.length p0)).setCell ⟨gy, 1, none⟩ (.int .i64 t0_3)).setCell ⟨gy, 2, none⟩ (.slice P2 z1_3.length p2)).setCell ⟨gy, 3, none⟩ (.int .i64 t1_3)).setCell ⟨gy, 4, none⟩ (.int .i64 fu_3)).setCell ⟨gy, 5, none⟩ (.int .i64 ke_3)).setCell ⟨gy, 6, none⟩ (.bool dn_3) = Wg3_1 at HD9 HX9 HY9 HB9 ⊢
  clear qd90 fqd90 qd91 fqd91 qd92 fqd92 qd93 fqd93 qd94 fqd94 qd95 fqd95 qd96 fqd96
  clear qx90 fqx90 qx91 fqx91 qx92 fqx92 qx93 fqx93 qx94 fqx94 qx95 fqx95 qx96 fqx96
  clear qy90 fqy90 qy91 fqy91 qy92 fqy92 qy93 fqy93 qy94 fqy94 qy95 fqy95 qy96 fqy96
  clear qs90 fqs90 qs91 fqs91 qs92 fqs92 qs93 fqs93 qs94 fqs94 qs95 fqs95 qs96 fqs96
  clear HD
  have HD := HD9
  clear HD9
  clear HX
  have HX := HX9
  clear HX9
  clear HY
  have HY := HY9
  clear HY9
  clear HB
  have HB := HB9
  clear HB9
  have qd100 := (blk_cell HD.out.b 0).trans rfl; have fqd100 := blk_frozen HD.out.b 0; have qd101 := (blk_cell HD.out.b 1).trans rfl; have fqd101 := blk_frozen HD.out.b 1; have qd102 := (blk_cell HD.out.b 2).trans rfl; have fqd102 := blk_frozen HD.out.b 2; have qd103 := (blk_cell HD.out.b 3).trans rfl; have fqd103 := blk_frozen HD.out.b 3; have qd104 := (blk_cell HD.out.b 4).trans rfl; have fqd104 := blk_frozen HD.out.b 4; have qd105 := (blk_cell HD.out.b 5).trans rfl; have fqd105 := blk_frozen HD.out.b 5; have qd106 := (blk_cell HD.out.b 6).trans rfl; have fqd106 := blk_frozen HD.out.b 6
  have qx100 := (blk_cell HX.out.b 0).trans rfl; have fqx100 := blk_frozen HX.out.b 0; have qx101 := (blk_cell HX.out.b 1).trans rfl; have fqx101 := blk_frozen HX.out.b 1; have qx102 := (blk_cell HX.out.b 2).trans rfl; have fqx102 := blk_frozen HX.out.b 2; have qx103 := (blk_cell HX.out.b 3).trans rfl; have fqx103 := blk_frozen HX.out.b 3; have qx104 := (blk_cell HX.out.b 4).trans rfl; have fqx104 := blk_frozen HX.out.b 4; have qx105 := (blk_cell HX.out.b 5).trans rfl; have fqx105 := blk_frozen HX.out.b 5; have qx106 := (blk_cell HX.out.b 6).trans rfl; have fqx106 := blk_frozen HX.out.b 6
  have qy100 := (blk_cell HY.out.b 0).trans rfl; have fqy100 := blk_frozen HY.out.b 0; have qy101 := (blk_cell HY.out.b 1).trans rfl; have fqy101 := blk_frozen HY.out.b 1; have qy102 := (blk_cell HY.out.b 2).trans rfl; have fqy102 := blk_frozen HY.out.b 2; have qy103 := (blk_cell HY.out.b 3).trans rfl; have fqy103 := blk_frozen HY.out.b 3; have qy104 := (blk_cell HY.out.b 4).trans rfl; have fqy104 := blk_frozen HY.out.b 4; have qy105 := (blk_cell HY.out.b 5).trans rfl; have fqy105 := blk_frozen HY.out.b 5; have qy106 := (blk_cell HY.out.b 6).trans rfl; have fqy106 := blk_frozen HY.out.b 6
  go_upto_region 21 with (go_at_call 62; (with_reducible refine Calls.mono (wristbandref17_Same.calls kk _ _ z0_3 t0_3 _ _ z1_3 t1_3 fu_3 ke_3 dn_3 _ _ z0_3 t0_3 _ _ z1_3 t1_3 fu_3 ke_3 dn_3 true _ (Kd.V_reads' HX.out.r0).2.2 (Kd.V_reads' HX.out.r0).2.1 (Kd.V_reads' HX.out.r1).2.2 (Kd.V_reads' HX.out.r1).2.1 (Kd.V_reads' HY.out.r0).2.2 (Kd.V_reads' HY.out.r0).2.1 (Kd.V_reads' HY.out.r1).2.2 (Kd.V_reads' HY.out.r1).2.1 HFS3.out) ?_); rintro e ws ⟨rfl, hb⟩; have hd := HD.out.below hb; have HD9 := Aside0.mk hd; have hx := HX.out.below hb; have HX9 := Aside0.mk hx; have hy := HY.out.below hb; have HY9 := Aside0.mk hy; have HB9 := Aside0.mk (below_step HB.out hb); have qd110 := (blk_cell hd.b 0).trans rfl; have fqd110 := blk_frozen hd.b 0; have qd111 := (blk_cell hd.b 1).trans rfl; have fqd111 := blk_frozen hd.b 1; have qd112 := (blk_cell hd.b 2).trans rfl; have fqd112 := blk_frozen hd.b 2; have qd113 := (blk_cell hd.b 3).trans rfl; have fqd113 := blk_frozen hd.b 3; have qd114 := (blk_cell hd.b 4).trans rfl; have fqd114 := blk_frozen hd.b 4; have qd115 := (blk_cell hd.b 5).trans rfl; have fqd115 := blk_frozen hd.b 5; have qd116 := (blk_cell hd.b 6).trans rfl; have fqd116 := blk_frozen hd.b 6; have qx110 := (blk_cell hx.b 0).trans rfl; have fqx110 := blk_frozen hx.b 0; have qx111 := (blk_cell hx.b 1).trans rfl; have fqx111 := blk_frozen hx.b 1; have qx112 := (blk_cell hx.b 2).trans rfl; have fqx112 := blk_frozen hx.b 2; have qx113 := (blk_cell hx.b 3).trans rfl; have fqx113 := blk_frozen hx.b 3; have qx114 := (blk_cell hx.b 4).trans rfl; have fqx114 := blk_frozen hx.b 4; have qx115 := (blk_cell hx.b 5).trans rfl; have fqx115 := blk_frozen hx.b 5; have qx116 := (blk_cell hx.b 6).trans rfl; have fqx116 := blk_frozen hx.b 6; have qy110 := (blk_cell hy.b 0).trans rfl; have fqy110 := blk_frozen hy.b 0; have qy111 := (blk_cell hy.b 1).trans rfl; have fqy111 := blk_frozen hy.b 1; have qy112 := (blk_cell hy.b 2).trans rfl; have fqy112 := blk_frozen hy.b 2; have qy113 := (blk_cell hy.b 3).trans rfl; have fqy113 := blk_frozen hy.b 3; have qy114 := (blk_cell hy.b 4).trans rfl; have fqy114 := blk_frozen hy.b 4; have qy115 := (blk_cell hy.b 5).trans rfl; have fqy115 := blk_frozen hy.b 5; have qy116 := (blk_cell hy.b 6).trans rfl; have fqy116 := blk_frozen hy.b 6; clear hb hd hx hy)
  clear qd100 fqd100 qd101 fqd101 qd102 fqd102 qd103 fqd103 qd104 fqd104 qd105 fqd105 qd106 fqd106
  clear qx100 fqx100 qx101 fqx101 qx102 fqx102 qx103 fqx103 qx104 fqx104 qx105 fqx105 qx106 fqx106
  clear qy100 fqy100 qy101 fqy101 qy102 fqy102 qy103 fqy103 qy104 fqy104 qy105 fqy105 qy106 fqy106
  clear HD
  have HD := HD9
  clear HD9
  clear HX
  have HX := HX9
  clear HX9
  clear HY
  have HY := HY9
  clear HY9
  clear HB
  have HB := HB9
  clear HB9
  go_upto_region 22 with (go_at_call 58; refine Calls.mono (disk_Rise.calls (fun k => k ∉ [gy, gx, g]) _ _ l0 s0 (fun k => k ∉ [gy, gx, g]) _ _ l1 s1 fu ke dn z0_4 t0_4 z1_4 t1_4 fu_4 ke_4 dn_4 er_4 _ (Dvar.any HD.out.r0) (Dvar.any HD.out.r1) HFP4.out) ?_; rintro e wp ⟨v0, v2, rfl, h0, h2, hb⟩; obtain ⟨P0, p0, rfl⟩ := Kd.V_slice h0; obtain ⟨P2, p2, rfl⟩ := Kd.V_slice h2; have hv := HX.out.below hb; have HX9 := Aside0.mk (Dvar.put7 (t0 := t0_4) (t1 := t1_4) (fu' := fu_4) (ke' := ke_4) (dn' := dn_4) hv (Dvar.res HX.out.lt h0) (Dvar.res HX.out.lt h2)); have HD9 := Aside0.mk ((HD.out.below hb).far7 (a := (.slice P0 z0_4.length p0)) (b := (.int .i64 t0_4)) (c := (.slice P2 z1_4.length p2)) (e := (.int .i64 t1_4)) (f := (.int .i64 fu_4)) (x := (.int .i64 ke_4)) (y := (.bool dn_4)) hv.m (Ne.symm HNX.out)); have HY9 := Aside0.mk ((HY.out.below hb).far7 (a := (.slice P0 z0_4.length p0)) (b := (.int .i64 t0_4)) (c := (.slice P2 z1_4.length p2)) (e := (.int .i64 t1_4)) (f := (.int .i64 fu_4)) (x := (.int .i64 ke_4)) (y := (.bool dn_4)) hv.m HNYX.out); have HB9 := Aside0.mk (Dvar.b7 (a := (.slice P0 z0_4.length p0)) (b := (.int .i64 t0_4)) (c := (.slice P2 z1_4.length p2)) (e := (.int .i64 t1_4)) (f := (.int .i64 fu_4)) (x := (.int .i64 ke_4)) (y := (.bool dn_4)) (below_step HB.out hb) HGX.out); have qs110 := (blk_cell hv.b 0).trans rfl; have fqs110 := blk_frozen hv.b 0; have qs111 := (blk_cell hv.b 1).trans rfl; have fqs111 := blk_frozen hv.b 1; have qs112 := (blk_cell hv.b 2).trans rfl; have fqs112 := blk_frozen hv.b 2; have qs113 := (blk_cell hv.b 3).trans rfl; have fqs113 := blk_frozen hv.b 3; have qs114 := (blk_cell hv.b 4).trans rfl; have fqs114 := blk_frozen hv.b 4; have qs115 := (blk_cell hv.b 5).trans rfl; have fqs115 := blk_frozen hv.b 5; have qs116 := (blk_cell hv.b 6).trans rfl; have fqs116 := blk_frozen hv.b 6; clear h0 h2 hb hv)
  generalize ((((((wp.setCell ⟨gx, 0, none⟩ (.slice P0 z0_4.length p0)).setCell ⟨gx, 1, none⟩ (.int .i64 t0_4)).setCell ⟨gx, 2, none⟩ (.slice P2 z1_4.length p2)).setCell ⟨gx, 3, none⟩ (.int .i64 t1_4)).setCell ⟨gx, 4, none⟩ (.int .i64 fu_4)).setCell ⟨gx, 5, none⟩ (.int .i64 ke_4)).setCell ⟨gx, 6, none⟩ (.bool dn_4) = Wg4_0 at HD9 HX9 HY9 HB9 ⊢
  clear qd110 fqd110 qd111 fqd111 qd112 fqd112 qd113 fqd113 qd114 fqd114 qd115 fqd115 qd116 fqd116
  clear qx110 fqx110 qx111 fqx111 qx112 fqx112 qx113 fqx113 qx114 fqx114 qx115 fqx115 qx116 fqx116
  clear qy110 fqy110 qy111 fqy111 qy112 fqy112 qy113 fqy113 qy114 fqy114 qy115 fqy115 qy116 fqy116
  clear qs110 fqs110 qs111 fqs111 qs112 fqs112 qs113 fqs113 qs114 fqs114 qs115 fqs115 qs116 fqs116
  clear HD
  have HD := HD9
  clear HD9
  clear HX
  have HX := HX9
  clear HX9
  clear HY
  have HY := HY9
  clear HY9
  clear HB
  have HB := HB9
  clear HB9
  have qd120 := (blk_cell HD.out.b 0).trans rfl; have fqd120 := blk_frozen HD.out.b 0; have qd121 := (blk_cell HD.out.b 1).trans rfl; have fqd121 := blk_frozen HD.out.b 1; have qd122 := (blk_cell HD.out.b 2).trans rfl; have fqd122 := blk_frozen HD.out.b 2; have qd123 := (blk_cell HD.out.b 3).trans rfl; have fqd123 := blk_frozen HD.out.b 3; have qd124 := (blk_cell HD.out.b 4).trans rfl; have fqd124 := blk_frozen HD.out.b 4; have qd125 := (blk_cell HD.out.b 5).trans rfl; have fqd125 := blk_frozen HD.out.b 5; have qd126 := (blk_cell HD.out.b 6).trans rfl; have fqd126 := blk_frozen HD.out.b 6
  have qx120 := (blk_cell HX.out.b 0).trans rfl; have fqx120 := blk_frozen HX.out.b 0; have qx121 := (blk_cell HX.out.b 1).trans rfl; have fqx121 := blk_frozen HX.out.b 1; have qx122 := (blk_cell HX.out.b 2).trans rfl; have fqx122 := blk_frozen HX.out.b 2; have qx123 := (blk_cell HX.out.b 3).trans rfl; have fqx123 := blk_frozen HX.out.b 3; have qx124 := (blk_cell HX.out.b 4).trans rfl; have fqx124 := blk_frozen HX.out.b 4; have qx125 := (blk_cell HX.out.b 5).trans rfl; have fqx125 := blk_frozen HX.out.b 5; have qx126 := (blk_cell HX.out.b 6).trans rfl; have fqx126 := blk_frozen HX.out.b 6
  have qy120 := (blk_cell HY.out.b 0).trans rfl; have fqy120 := blk_frozen HY.out.b 0; have qy121 := (blk_cell HY.out.b 1).trans rfl; have fqy121 := blk_frozen HY.out.b 1; have qy122 := (blk_cell HY.out.b 2).trans rfl; have fqy122 := blk_frozen HY.out.b 2; have qy123 := (blk_cell HY.out.b 3).trans rfl; have fqy123 := blk_frozen HY.out.b 3; have qy124 := (blk_cell HY.out.b 4).trans rfl; have fqy124 := blk_frozen HY.out.b 4; have qy125 := (blk_cell HY.out.b 5).trans rfl; have fqy125 := blk_frozen HY.out.b 5; have qy126 := (blk_cell HY.out.b 6).trans rfl; have fqy126 := blk_frozen HY.out.b 6
  go_upto_region 23 with (go_at_call 67; refine Calls.mono (wristbandref17_Rise.calls kk (fun k => k ∉ [gy, gx, g]) _ _ l0 s0 (fun k => k ∉ [gy, gx, g]) _ _ l1 s1 fu ke dn z0_4 t0_4 z1_4 t1_4 fu_4 ke_4 dn_4 er_4 _ (Dvar.any HD.out.r0) (Dvar.any HD.out.r1) HFR4.out) ?_; rintro e wp ⟨v0, v2, rfl, h0, h2, hb⟩; obtain ⟨P0, p0, rfl⟩ := Kd.V_slice h0; obtain ⟨P2, p2, rfl⟩ := Kd.V_slice h2; have hv := HY.out.below hb; have HY9 := Aside0.mk (Dvar.put7 (t0 := t0_4) (t1 := t1_4) (fu' := fu_4) (ke' := ke_4) (dn' := dn_4) hv (Dvar.res HY.out.lt h0) (Dvar.res HY.out.lt h2)); have HD9 := Aside0.mk ((HD.out.below hb).far7 (a := (.slice P0 z0_4.length p0)) (b := (.int .i64 t0_4)) (c := (.slice P2 z1_4.length p2)) (e := (.int .i64 t1_4)) (f := (.int .i64 fu_4)) (x := (.int .i64 ke_4)) (y := (.bool dn_4)) hv.m (Ne.symm HNY.out)); have HX9 := Aside0.mk ((HX.out.below hb).far7 (a := (.slice P0 z0_4.length p0)) (b := (.int .i64 t0_4)) (c := (.slice P2 z1_4.length p2)) (e := (.int .i64 t1_4)) (f := (.int .i64 fu_4)) (x := (.int .i64 ke_4)) (y := (.bool dn_4)) hv.m (Ne.symm HNYX.out)); have HB9 := Aside0.mk (Dvar.b7 (a := (.slice P0 z0_4.length p0)) (b := (.int .i64 t0_4)) (c := (.slice P2 z1_4.length p2)) (e := (.int .i64 t1_4)) (f := (.int .i64 fu_4)) (x := (.int .i64 ke_4)) (y := (.bool dn_4)) (below_step HB.out hb) HGY.out); have qs120 := (blk_cell hv.b 0).trans rfl; have fqs120 := blk_frozen hv.b 0; have qs121 := (blk_cell hv.b 1).trans rfl; have fqs121 := blk_frozen hv.b 1; have qs122 := (blk_cell hv.b 2).trans rfl; have fqs122 := blk_frozen hv.b 2; have qs123 := (blk_cell hv.b 3).trans rfl; have fqs123 := blk_frozen hv.b 3; have qs124 := (blk_cell hv.b 4).trans rfl; have fqs124 := blk_frozen hv.b 4; have qs125 := (blk_cell hv.b 5).trans rfl; have fqs125 := blk_frozen hv.b 5; have qs126 := (blk_cell hv.b 6).trans rfl; have fqs126 := blk_frozen hv.b 6; clear h0 h2 hb hv)
  generalize ((((((wp.setCell ⟨gy, 0, none⟩ (.slice P0 z0_4.length p0)).setCell ⟨gy, 1, none⟩ (.int .i64 t0_4)).setCell ⟨gy, 2, none⟩ (.slice P2 z1_4.length p2)).setCell ⟨gy, 3, none⟩ (.int .i64 t1_4)).setCell ⟨gy, 4, none⟩ (.int .i64 fu_4)).setCell ⟨gy, 5, none⟩ (.int .i64 ke_4)).setCell ⟨gy, 6, none⟩ (.bool dn_4) = Wg4_1 at HD9 HX9 HY9 HB9 ⊢
  clear qd120 fqd120 qd121 fqd121 qd122 fqd122 qd123 fqd123 qd124 fqd124 qd125 fqd125 qd126 fqd126
  clear qx120 fqx120 qx121 fqx121 qx122 fqx122 qx123 fqx123 qx124 fqx124 qx125 fqx125 qx126 fqx126
  clear qy120 fqy120 qy121 fqy121 qy122 fqy122 qy123 fqy123 qy124 fqy124 qy125 fqy125 qy126 fqy126
  clear qs120 fqs120 qs121 fqs121 qs122 fqs122 qs123 fqs123 qs124 fqs124 qs125 fqs125 qs126 fqs126
  clear HD
  have HD := HD9
  clear HD9
  clear HX
  have HX := HX9
  clear HX9
  clear HY
  have HY := HY9
  clear HY9
  clear HB
  have HB := HB9
  clear HB9
  have qd130 := (blk_cell HD.out.b 0).trans rfl; have fqd130 := blk_frozen HD.out.b 0; have qd131 := (blk_cell HD.out.b 1).trans rfl; have fqd131 := blk_frozen HD.out.b 1; have qd132 := (blk_cell HD.out.b 2).trans rfl; have fqd132 := blk_frozen HD.out.b 2; have qd133 := (blk_cell HD.out.b 3).trans rfl; have fqd133 := blk_frozen HD.out.b 3; have qd134 := (blk_cell HD.out.b 4).trans rfl; have fqd134 := blk_frozen HD.out.b 4; have qd135 := (blk_cell HD.out.b 5).trans rfl; have fqd135 := blk_frozen HD.out.b 5; have qd136 := (blk_cell HD.out.b 6).trans rfl; have fqd136 := blk_frozen HD.out.b 6
  have qx130 := (blk_cell HX.out.b 0).trans rfl; have fqx130 := blk_frozen HX.out.b 0; have qx131 := (blk_cell HX.out.b 1).trans rfl; have fqx131 := blk_frozen HX.out.b 1; have qx132 := (blk_cell HX.out.b 2).trans rfl; have fqx132 := blk_frozen HX.out.b 2; have qx133 := (blk_cell HX.out.b 3).trans rfl; have fqx133 := blk_frozen HX.out.b 3; have qx134 := (blk_cell HX.out.b 4).trans rfl; have fqx134 := blk_frozen HX.out.b 4; have qx135 := (blk_cell HX.out.b 5).trans rfl; have fqx135 := blk_frozen HX.out.b 5; have qx136 := (blk_cell HX.out.b 6).trans rfl; have fqx136 := blk_frozen HX.out.b 6
  have qy130 := (blk_cell HY.out.b 0).trans rfl; have fqy130 := blk_frozen HY.out.b 0; have qy131 := (blk_cell HY.out.b 1).trans rfl; have fqy131 := blk_frozen HY.out.b 1; have qy132 := (blk_cell HY.out.b 2).trans rfl; have fqy132 := blk_frozen HY.out.b 2; have qy133 := (blk_cell HY.out.b 3).trans rfl; have fqy133 := blk_frozen HY.out.b 3; have qy134 := (blk_cell HY.out.b 4).trans rfl; have fqy134 := blk_frozen HY.out.b 4; have qy135 := (blk_cell HY.out.b 5).trans rfl; have fqy135 := blk_frozen HY.out.b 5; have qy136 := (blk_cell HY.out.b 6).trans rfl; have fqy136 := blk_frozen HY.out.b 6
  have HD9 := Aside0.mk HD.out.drew
  have HX9 := Aside0.mk HX.out.drew
  have HY9 := Aside0.mk HY.out.drew
  have HB9 := Aside0.mk (below_drew1 HB.out)
  clear HD
  have HD := HD9
  clear HD9
  clear HX
  have HX := HX9
  clear HX9
  clear HY
  have HY := HY9
  clear HY9
  clear HB
  have HB := HB9
  clear HB9
  go_region_with (first
    | (go_at_call 62; (with_reducible refine Calls.mono (wristbandref17_Same.calls kk _ _ z0_4 t0_4 _ _ z1_4 t1_4 fu_4 ke_4 dn_4 _ _ z0_4 t0_4 _ _ z1_4 t1_4 fu_4 ke_4 dn_4 true _ (Kd.V_reads' HX.out.r0).2.2 (Kd.V_reads' HX.out.r0).2.1 (Kd.V_reads' HX.out.r1).2.2 (Kd.V_reads' HX.out.r1).2.1 (Kd.V_reads' HY.out.r0).2.2 (Kd.V_reads' HY.out.r0).2.1 (Kd.V_reads' HY.out.r1).2.2 (Kd.V_reads' HY.out.r1).2.1 HFS4.out) ?_); rintro e w1_ ⟨rfl, hb⟩; have hd := HD.out.below hb; have HD9 := Aside0.mk hd; have HB9 := Aside0.mk (below_step HB.out hb); clear HD HB; have HD := HD9; have HB := HB9; clear HD9 HB9; have qk0 := (blk_cell hd.b 0).trans rfl; have qk1 := (blk_cell hd.b 1).trans rfl; have qk2 := (blk_cell hd.b 2).trans rfl; have qk3 := (blk_cell hd.b 3).trans rfl; have qk4 := (blk_cell hd.b 4).trans rfl; have qk5 := (blk_cell hd.b 5).trans rfl; have qk6 := (blk_cell hd.b 6).trans rfl; clear hb hd)
    | (go_at_call 59; refine Calls.mono (disk_Right.calls _ _ l0 s0 _ _ l1 s1 fu ke dn rgt _ (Kd.V_reads' HD.out.r0).2.2 (Kd.V_reads' HD.out.r0).2.1 (Kd.V_reads' HD.out.r1).2.2 (Kd.V_reads' HD.out.r1).2.1 HFT.out) ?_; rintro e w2_ ⟨rfl, hb⟩; have hd := HD.out.below hb; have HD9 := Aside0.mk hd; have HB9 := Aside0.mk (below_step HB.out hb); clear HD HB; have HD := HD9; have HB := HB9; clear HD9 HB9; have ql0 := (blk_cell hd.b 0).trans rfl; have ql1 := (blk_cell hd.b 1).trans rfl; have ql2 := (blk_cell hd.b 2).trans rfl; have ql3 := (blk_cell hd.b 3).trans rfl; have ql4 := (blk_cell hd.b 4).trans rfl; have ql5 := (blk_cell hd.b 5).trans rfl; have ql6 := (blk_cell hd.b 6).trans rfl; clear hb hd)
    | (go_at_call 68; refine Calls.mono (wristbandref17_Right.calls kk _ _ l0 s0 _ _ l1 s1 fu ke dn rgt _ (Kd.V_reads' HD.out.r0).2.2 (Kd.V_reads' HD.out.r0).2.1 (Kd.V_reads' HD.out.r1).2.2 (Kd.V_reads' HD.out.r1).2.1 HFU.out) ?_; rintro e w3_ ⟨rfl, hb⟩; have hd := HD.out.below hb; have HD9 := Aside0.mk hd; have HB9 := Aside0.mk (below_step HB.out hb); clear HD HB; have HD := HD9; have HB := HB9; clear HD9 HB9; have qm0 := (blk_cell hd.b 0).trans rfl; have qm1 := (blk_cell hd.b 1).trans rfl; have qm2 := (blk_cell hd.b 2).trans rfl; have qm3 := (blk_cell hd.b 3).trans rfl; have qm4 := (blk_cell hd.b 4).trans rfl; have qm5 := (blk_cell hd.b 5).trans rfl; have qm6 := (blk_cell hd.b 6).trans rfl; clear hb hd)
    | (go_at_call 54; refine Calls.mono (disk_New.calls _ _ _ _ _ _ _ _ HFN.out) ?_; rintro e w4_ ⟨v0, v2, rfl, h0, h2, hb⟩; obtain ⟨N0, n0, rfl⟩ := Kd.R_slice h0; obtain ⟨N2, n2, rfl⟩ := Kd.R_slice h2; have HN0 := Aside0.mk h0; have HN2 := Aside0.mk h2; have HB9 := Aside0.mk (below_step HB.out hb); clear HB; have HB := HB9; clear HB9 h0 h2 hb)
    | (go_at_call 62; refine Calls.mono (wristbandref17_Same.calls kk _ _ ye 0 _ _ ye 0 (-1) 0 false none 0 [] 0 none 0 [] 0 (-1) 0 false true _ (Kd.R_reads' HN0.out).2.2 (Kd.R_reads' HN0.out).2.1 (Kd.R_reads' HN2.out).2.2 (Kd.R_reads' HN2.out).2.1 (Kd.C_nil _ _) (Nat.le_refl _) (Kd.C_nil _ _) (Nat.le_refl _) HFM.out) ?_; rintro e w5_ ⟨rfl, hb⟩; have HB9 := Aside0.mk (below_step HB.out hb); clear HB; have HB := HB9; clear HB9 hb))
  all_goals
    simp only [List.getElem_toArray, List.getElem_cons_succ, List.getElem_cons_zero, Act.put, List.setIfInBounds_toArray, List.set_cons_zero, List.set_cons_succ]
    go_wp2
    go_ret
    exact ⟨rfl, HB.out⟩
structure Sr71 where
  f0 : (List Int)
  f1 : Int
def kr71 : Kd Sr71 := Kd.iso (Kd.pair (Kd.slice 5 (Kd.int .u8)) (Kd.int .i64)) (fun x : Sr71 => (x.f0, x.f1))
structure Sr72 where
  f0 : Sr71
  f1 : Sr71
def kr72 : Kd Sr72 := Kd.iso (Kd.pair kr71 kr71) (fun x : Sr72 => (x.f0, x.f1))
structure Sr74 where
  f0 : Sr72
  f1 : Int
  f2 : Int
  f3 : Bool
def kr74 : Kd Sr74 := Kd.iso (Kd.pair kr72 (Kd.pair (Kd.int .i64) (Kd.pair (Kd.int .i64) Kd.bool))) (fun x : Sr74 => (x.f0, x.f1, x.f2, x.f3))
def Gr71 (x_ : Sr71) : Prop := (fun xs_ : List Int => xs_.length ≤ maxLen ∧ ∀ x_ ∈ xs_, (fun n_ : Int => (Lit.int .u8 n_).wf = true) x_) x_.f0 ∧ (fun n_ : Int => (Lit.int .i64 n_).wf = true) x_.f1
def Gr72 (x_ : Sr72) : Prop := Gr71 x_.f0 ∧ Gr71 x_.f1
def Gr74 (x_ : Sr74) : Prop := Gr72 x_.f0 ∧ (fun n_ : Int => (Lit.int .i64 n_).wf = true) x_.f1 ∧ (fun n_ : Int => (Lit.int .i64 n_).wf = true) x_.f2 ∧ (fun _ : Bool => True) x_.f3
theorem rt.opens_array {α : Type} {P : Program} {t e : TypeId} {n c : Nat} {d : Kd α} {G : α → Prop} {fs : List Field} (hce : P.cellsOf e = c) (ht : P.underlying t = some (.array n e)) (hfs : fs = (List.range n).map (fun i => fld e (i * c))) (hf : OpensFs P fs 0 d G) (hc : P.cellsOf t = d.sz) : Opens P t d G := by
  intro H enc W base sp held fuel cs x h
  obtain ⟨xs, m, _, _, hl, hlen, hxs⟩ := DataW.trod_array ht h
  obtain ⟨a, hk, hg⟩ := hf enc W base sp held m cs (fun f hf' => by
    rw [hfs] at hf'
    obtain ⟨i, hi, rfl⟩ := List.mem_map.1 hf'
    have hi' : i < n := List.mem_range.1 hi
    have := hxs i hi'
    rw [hce] at this
    show ∃ y, DataW.trod enc P W base sp held m e ((cs.drop (i * c)).take (P.cellsOf e)) = some y
    rw [hce]
    exact ⟨xs[i]'(by omega), by rw [this]; exact List.getElem?_eq_getElem (by omega)⟩)
  refine ⟨a, ?_, hg⟩
  have e1 : (cs.drop 0).take d.sz = cs := by rw [List.drop_zero, ← hc, ← hl, List.take_length]
  rw [← e1]; exact hk
theorem opensr71 : Opens Try.prog 71 kr71 Gr71 := opens_iso (opens_struct Try.underlying71 (opens_cons (opens_slice Try.underlying22 (opens_int Try.underlying5) (by kernel_rfl)) rfl (by kernel_rfl) (opens_one (opens_int Try.underlying3) rfl (by kernel_rfl))) (by kernel_rfl)) (fun p_ => (⟨p_.1, p_.2⟩ : Sr71)) (fun _ => rfl)
theorem opensr72 : Opens Try.prog 72 kr72 Gr72 := opens_iso (rt.opens_array (c := 2) (fs := [fld 71 0, fld 71 2]) (by kernel_rfl) Try.underlying72 rfl (opens_cons (opensr71) rfl (by kernel_rfl) (opens_one (opensr71) rfl (by kernel_rfl))) (by kernel_rfl)) (fun p_ => (⟨p_.1, p_.2⟩ : Sr72)) (fun _ => rfl)
theorem opensr74 : Opens Try.prog 74 kr74 Gr74 := opens_iso (opens_struct Try.underlying74 (opens_cons (opensr72) rfl (by kernel_rfl) (opens_cons (opens_int Try.underlying3) rfl (by kernel_rfl) (opens_cons (opens_int Try.underlying3) rfl (by kernel_rfl) (opens_one (opens_bool Try.underlying4) rfl (by kernel_rfl))))) (by kernel_rfl)) (fun p_ => (⟨p_.1, p_.2.1, p_.2.2.1, p_.2.2.2⟩ : Sr74)) (fun _ => rfl)
theorem wristbandlaw17_DiskRight.open0 {H : Type} {enc : TypeId × Value → H} {W : World} {base : Nat} {sp : Nat → Bool} {held : Bool} {cs : Array Value} {x : DataW H} {p : List MemPlace} (hT : DataW.Trod enc Try.prog W base sp held 74 (.agg cs) x p) : ∃ (A0_0 : Option Addr) (c0_0 : Nat) (l0_0 : List Int) (a0_1 : Int) (A0_2 : Option Addr) (c0_2 : Nat) (l0_2 : List Int) (a0_3 : Int) (a0_4 : Int) (a0_5 : Int) (a0_6 : Bool), Value.agg cs = .agg #[.slice A0_0 l0_0.length c0_0, .int .i64 a0_1, .slice A0_2 l0_2.length c0_2, .int .i64 a0_3, .int .i64 a0_4, .int .i64 a0_5, .bool a0_6] ∧ (l0_0.length ≤ c0_0 ∧ Kd.C (Kd.int .u8) W A0_0 l0_0.length l0_0 ∧ (l0_0.length ≤ maxLen ∧ ∀ x_ ∈ l0_0, (fun n_ : Int => (Lit.int .u8 n_).wf = true) x_)) ∧ (Lit.int .i64 a0_1).wf = true ∧ (l0_2.length ≤ c0_2 ∧ Kd.C (Kd.int .u8) W A0_2 l0_2.length l0_2 ∧ (l0_2.length ≤ maxLen ∧ ∀ x_ ∈ l0_2, (fun n_ : Int => (Lit.int .u8 n_).wf = true) x_)) ∧ (Lit.int .i64 a0_3).wf = true ∧ (Lit.int .i64 a0_4).wf = true ∧ (Lit.int .i64 a0_5).wf = true := by
  obtain ⟨fuel, hf⟩ := hT
  obtain ⟨z, hk, hg⟩ := opensr74 enc W base sp held fuel _ _ hf
  change kr74.K W z cs.toList at hk
  obtain ⟨hg_0, hg_1, hg_2, hg_3⟩ := hg
  obtain ⟨ca1, cb1, ea1, ha1, hb1⟩ := hk
  obtain ⟨hg_0_0, hg_0_1⟩ := hg_0
  obtain ⟨ca2, cb2, ea2, ha2, hb2⟩ := ha1
  obtain ⟨hg_0_0_0, hg_0_0_1⟩ := hg_0_0
  obtain ⟨ca3, cb3, ea3, ha3, hb3⟩ := ha2
  obtain ⟨A4, c4, q4, hl4, hC4⟩ := ha3
  have q5 : cb3 = [.int .i64 z.f0.f0.f1] := hb3
  obtain ⟨hg_0_1_0, hg_0_1_1⟩ := hg_0_1
  obtain ⟨ca6, cb6, ea6, ha6, hb6⟩ := hb2
  obtain ⟨A7, c7, q7, hl7, hC7⟩ := ha6
  have q8 : cb6 = [.int .i64 z.f0.f1.f1] := hb6
  obtain ⟨ca9, cb9, ea9, ha9, hb9⟩ := hb1
  have q10 : ca9 = [.int .i64 z.f1] := ha9
  obtain ⟨ca11, cb11, ea11, ha11, hb11⟩ := hb9
  have q12 : ca11 = [.int .i64 z.f2] := ha11
  have q13 : cb11 = [.bool z.f3] := hb11
  exact ⟨A4, c4, z.f0.f0.f0, z.f0.f0.f1, A7, c7, z.f0.f1.f0, z.f0.f1.f1, z.f1, z.f2, z.f3, congrArg Value.agg (Array.toList_inj.1 (by rw [ea1, ea2, ea3, q4, q5, ea6, q7, q8, ea9, q10, ea11, q12, q13]; rfl)), ⟨hl4, hC4, hg_0_0_0⟩, hg_0_0_1, ⟨hl7, hC7, hg_0_1_0⟩, hg_0_1_1, hg_1, hg_2⟩
/-- What both answer. -/
def wristbandlaw17_DiskRight.Pure : Prop := ∀ (l0 : List Int) (s0 : Int) (l1 : List Int) (s1 fu ke : Int) (dn : Bool) (k : Int) (b : List Int) (a3 : Int), ke ≤ 9223372036854775807 → a3 ≤ 9223372036854775807 → wristbandref17_Short.f l0 s0 l1 s1 fu ke dn = some false ∨ (wristbandref17_Short.f l0 s0 l1 s1 fu ke dn = some true ∧ 3000 < b.length) ∨ (wristbandref17_Short.f l0 s0 l1 s1 fu ke dn = some true ∧ ¬ 3000 < b.length ∧ ∃ (z0_0 : List Int) (t0_0 : Int) (z1_0 : List Int) (t1_0 : Int) (fu_0 : Int) (ke_0 : Int) (dn_0 : Bool) (er_0 : Int) (z0_1 : List Int) (t0_1 : Int) (z1_1 : List Int) (t1_1 : Int) (fu_1 : Int) (ke_1 : Int) (dn_1 : Bool) (er_1 : Int) (z0_2 : List Int) (t0_2 : Int) (z1_2 : List Int) (t1_2 : Int) (fu_2 : Int) (ke_2 : Int) (dn_2 : Bool) (er_2 : Int) (z0_3 : List Int) (t0_3 : Int) (z1_3 : List Int) (t1_3 : Int) (fu_3 : Int) (ke_3 : Int) (dn_3 : Bool) (er_3 : Int) (z0_4 : List Int) (t0_4 : Int) (z1_4 : List Int) (t1_4 : Int) (fu_4 : Int) (ke_4 : Int) (dn_4 : Bool) (er_4 : Int) (ye : List Int) (rgt : Bool), disk_Write.f l0 s0 l1 s1 fu ke dn k b = some (z0_0, t0_0, z1_0, t1_0, fu_0, ke_0, dn_0, er_0) ∧ wristbandref17_Write.f l0 s0 l1 s1 fu ke dn k b = some (z0_0, t0_0, z1_0, t1_0, fu_0, ke_0, dn_0, er_0) ∧ wristbandref17_Same.f 3 z0_0 t0_0 z1_0 t1_0 fu_0 ke_0 dn_0 z0_0 t0_0 z1_0 t1_0 fu_0 ke_0 dn_0 = some true ∧ disk_Sync.f l0 s0 l1 s1 fu ke dn k = some (z0_1, t0_1, z1_1, t1_1, fu_1, ke_1, dn_1, er_1) ∧ wristbandref17_Sync.f l0 s0 l1 s1 fu ke dn k = some (z0_1, t0_1, z1_1, t1_1, fu_1, ke_1, dn_1, er_1) ∧ wristbandref17_Same.f 3 z0_1 t0_1 z1_1 t1_1 fu_1 ke_1 dn_1 z0_1 t0_1 z1_1 t1_1 fu_1 ke_1 dn_1 = some true ∧ disk_Wipe.f l0 s0 l1 s1 fu ke dn k = some (z0_2, t0_2, z1_2, t1_2, fu_2, ke_2, dn_2, er_2) ∧ wristbandref17_Wipe.f l0 s0 l1 s1 fu ke dn k = some (z0_2, t0_2, z1_2, t1_2, fu_2, ke_2, dn_2, er_2) ∧ wristbandref17_Same.f 3 z0_2 t0_2 z1_2 t1_2 fu_2 ke_2 dn_2 z0_2 t0_2 z1_2 t1_2 fu_2 ke_2 dn_2 = some true ∧ disk_Crash.f 3 l0 s0 l1 s1 fu ke dn a3 = some (z0_3, t0_3, z1_3, t1_3, fu_3, ke_3, dn_3, er_3) ∧ wristbandref17_Crash.f 3 l0 s0 l1 s1 fu ke dn a3 = some (z0_3, t0_3, z1_3, t1_3, fu_3, ke_3, dn_3, er_3) ∧ wristbandref17_Same.f 3 z0_3 t0_3 z1_3 t1_3 fu_3 ke_3 dn_3 z0_3 t0_3 z1_3 t1_3 fu_3 ke_3 dn_3 = some true ∧ disk_Rise.f l0 s0 l1 s1 fu ke dn = some (z0_4, t0_4, z1_4, t1_4, fu_4, ke_4, dn_4, er_4) ∧ wristbandref17_Rise.f 3 l0 s0 l1 s1 fu ke dn = some (z0_4, t0_4, z1_4, t1_4, fu_4, ke_4, dn_4, er_4) ∧ wristbandref17_Same.f 3 z0_4 t0_4 z1_4 t1_4 fu_4 ke_4 dn_4 z0_4 t0_4 z1_4 t1_4 fu_4 ke_4 dn_4 = some true ∧ disk_Right.f l0 s0 l1 s1 fu ke dn = some rgt ∧ wristbandref17_Right.f 3 l0 s0 l1 s1 fu ke dn = some rgt ∧ disk_New.f = some (ye, 0, ye, 0, -1, 0, false) ∧ wristbandref17_Same.f 3 ye 0 ye 0 (-1) 0 false [] 0 [] 0 (-1) 0 false = some true)
theorem wristbandlaw17_DiskRight.walk (P : wristbandlaw17_DiskRight.Pure) (A0_0 : Option Addr) (c0_0 : Nat) (l0_0 : List Int) (a0_1 : Int) (A0_2 : Option Addr) (c0_2 : Nat) (l0_2 : List Int) (a0_3 : Int) (a0_4 : Int) (a0_5 : Int) (a0_6 : Bool) (a1 : Int) (a2 : Option Addr) (len2 cap2 : Nat) (z2 : List Int) (a3 : Int) (w : World) (w0_0 : l0_0.length ≤ c0_0 ∧ Kd.C (Kd.int .u8) w A0_0 l0_0.length l0_0 ∧ (l0_0.length ≤ maxLen ∧ ∀ x_ ∈ l0_0, (fun n_ : Int => (Lit.int .u8 n_).wf = true) x_)) (w0_1 : (Lit.int .i64 a0_1).wf = true) (w0_2 : l0_2.length ≤ c0_2 ∧ Kd.C (Kd.int .u8) w A0_2 l0_2.length l0_2 ∧ (l0_2.length ≤ maxLen ∧ ∀ x_ ∈ l0_2, (fun n_ : Int => (Lit.int .u8 n_).wf = true) x_)) (w0_3 : (Lit.int .i64 a0_3).wf = true) (w0_4 : (Lit.int .i64 a0_4).wf = true) (w0_5 : (Lit.int .i64 a0_5).wf = true) (w1 : (Lit.int .i64 a1).wf = true) (w2 : (a2 = none ∧ len2 = 0 ∧ cap2 = 0 ∧ z2 = []) ∨ ∃ x, a2 = some x ∧ len2 ≤ cap2 ∧ cap2 ≤ maxLen ∧ z2.length = cap2 ∧ (∀ i, i < z2.length → w.cell? (x.add i) = some (.int .u8 (z2.getD i 0))) ∧ ∀ n ∈ z2, (Lit.int .u8 n).wf = true) (y2 : len2 * 1 ≤ 140737488351232) (w3 : (Lit.int .i64 a3).wf = true) :
   Calls Try.prog 13 #[.agg #[.slice A0_0 l0_0.length c0_0, .int .i64 a0_1, .slice A0_2 l0_2.length c0_2, .int .i64 a0_3, .int .i64 a0_4, .int .i64 a0_5, .bool a0_6], .int .i64 a1, .slice a2 len2 cap2, .int .i64 a3] w fun e w' => e = .returned (.bool true) ∧ Below w.heap.size w w' := by
  obtain ⟨hc0, hr0, hm0, hw0⟩ := w0_0
  obtain ⟨hc1, hr1, hm1, hw1⟩ := w0_2
  obtain ⟨l2, rfl, hr2, hm2, hw2, hc2⟩ := ReadsInt.ofRowC w2
  have hrb := Kd.C_of_reads (enc := Value.int .u8) (d := (0 : Int)) (h1 := fun _ => rfl) hr2
  rcases P l0_0 a0_1 l0_2 a0_3 a0_4 a0_5 a0_6 a1 l2 a3 (bounds_i64 w0_5).2 (bounds_i64 w3).2 with h | ⟨h, hl⟩ | ⟨h, hl, z0_0, t0_0, z1_0, t1_0, fu_0, ke_0, dn_0, er_0, z0_1, t0_1, z1_1, t1_1, fu_1, ke_1, dn_1, er_1, z0_2, t0_2, z1_2, t1_2, fu_2, ke_2, dn_2, er_2, z0_3, t0_3, z1_3, t1_3, fu_3, ke_3, dn_3, er_3, z0_4, t0_4, z1_4, t1_4, fu_4, ke_4, dn_4, er_4, ye, rgt, FP0, FR0, FS0, FP1, FR1, FS1, FP2, FR2, FS2, FP3, FR3, FS3, FP4, FR4, FS4, FT, FU, FN, FM⟩
  · exact rt.long A0_0 c0_0 l0_0 a0_1 A0_2 c0_2 l0_2 a0_3 a0_4 a0_5 a0_6 a1 a2 cap2 l2 a3 w hr0 hc0 hr1 hc1 hrb hc2 h
  · exact rt.much A0_0 c0_0 l0_0 a0_1 A0_2 c0_2 l0_2 a0_3 a0_4 a0_5 a0_6 a1 a2 cap2 l2 a3 w hr0 hc0 hr1 hc1 hrb hc2 h hl
  · exact rt.main A0_0 c0_0 l0_0 a0_1 A0_2 c0_2 l0_2 a0_3 a0_4 a0_5 a0_6 a1 a2 cap2 l2 a3 w hr0 hc0 hr1 hc1 hrb hc2 h hl 3 z0_0 t0_0 z1_0 t1_0 fu_0 ke_0 dn_0 er_0 z0_1 t0_1 z1_1 t1_1 fu_1 ke_1 dn_1 er_1 z0_2 t0_2 z1_2 t1_2 fu_2 ke_2 dn_2 er_2 z0_3 t0_3 z1_3 t1_3 fu_3 ke_3 dn_3 er_3 z0_4 t0_4 z1_4 t1_4 fu_4 ke_4 dn_4 er_4 ye rgt FP0 FR0 FS0 FP1 FR1 FS1 FP2 FR2 FS2 FP3 FR3 FS3 FP4 FR4 FS4 FT FU FN FM

end Go.Proofs.Ytnpkhkhlofkbhaa.PDiskRight
