-- made by a program of this session (its printer) out of what Lean prints of the given program
import Derived.Test.YtnpkhkhlofkbhaaDoorPSlipRightx0
import Derived.Test.YtnpkhkhlofkbhaaDoorPSlipRightx4
namespace Go.Proofs.YtnpkhkhlofkbhaaDoor.PSlipRight
open Go.RowKit Go.Proofs.YtnpkhkhlofkbhaaDoorW.PrintWords Go.Proofs.YtnpkhkhlofkbhaaDoorW.PrintLast Go.Proofs.YtnpkhkhlofkbhaaDoorW.PrintMore
attribute [local go_sem] max2_int min2_int max_two min_two max_three min_three max_four min_four   -- for this text's walks alone
set_option linter.unusedVariables false
set_option linter.unusedSimpArgs false

/-! ### wristbandref02_Block: function 18 -/
mutual
def wristbandref02_Block.l0 : Nat → List Int → List Int → Int → Option (List Int)
  | 0, _, _, _ => none
  | k + 1, x0, x5, x6 => if x6 < 64 then (if 0 ≤ (wrap64 (x6 - 15)) then (if (wrap64 (x6 - 15)) < (x5.length : Int) then (if 0 ≤ (wrap64 (x6 - 2)) then (if (wrap64 (x6 - 2)) < (x5.length : Int) then ((wristbandref01_Rot.f k (rd x5 (wrap64 (x6 - 15))) 7).bind fun t284 => ((wristbandref01_Rot.f k (rd x5 (wrap64 (x6 - 15))) 18).bind fun t285 => ((wristbandref02_down.f k (rd x5 (wrap64 (x6 - 15))) 3).bind fun t286 => ((wristbandref01_Rot.f k (rd x5 (wrap64 (x6 - 2))) 17).bind fun t287 => ((wristbandref01_Rot.f k (rd x5 (wrap64 (x6 - 2))) 19).bind fun t288 => ((wristbandref02_down.f k (rd x5 (wrap64 (x6 - 2))) 10).bind fun t289 => (if 0 ≤ (wrap64 (x6 - 7)) then (if (wrap64 (x6 - 7)) < (x5.length : Int) then (if 0 ≤ (wrap64 (x6 - 16)) then (if (wrap64 (x6 - 16)) < (x5.length : Int) then (if x5.length < 35184372088832 then (wristbandref02_Block.l0 k x0 (x5 ++ [((((((Go.bits .xor .u32 (Go.bits .xor .u32 t287 t288) t289) + (rd x5 (wrap64 (x6 - 7)))) % 4294967296) + (Go.bits .xor .u32 (Go.bits .xor .u32 t284 t285) t286)) % 4294967296) + (rd x5 (wrap64 (x6 - 16)))) % 4294967296]) (wrap64 (x6 + 1))) else (none)) else (none)) else (none)) else (none)) else (none)))))))) else (none)) else (none)) else (none)) else (none)) else (if 0 < (x0.length : Int) then (if 1 < (x0.length : Int) then (if 2 < (x0.length : Int) then (if 3 < (x0.length : Int) then (if 4 < (x0.length : Int) then (if 5 < (x0.length : Int) then (if 6 < (x0.length : Int) then (if 7 < (x0.length : Int) then (wristbandref02_Block.l1 k x0 x5 (rd x0 0) (rd x0 1) (rd x0 2) (rd x0 3) (rd x0 4) (rd x0 5) (rd x0 6) (rd x0 7) 0) else (none)) else (none)) else (none)) else (none)) else (none)) else (none)) else (none)) else (none))
def wristbandref02_Block.l1 : Nat → List Int → List Int → Int → Int → Int → Int → Int → Int → Int → Int → Int → Option (List Int)
  | 0, _, _, _, _, _, _, _, _, _, _, _ => none
  | k + 1, x0, x5, x11, x12, x13, x14, x15, x16, x17, x18, x19 => if x19 < 64 then ((wristbandref01_Rot.f k x15 6).bind fun t314 => ((wristbandref01_Rot.f k x15 11).bind fun t315 => ((wristbandref01_Rot.f k x15 25).bind fun t316 => ((wristbandref02_constant.f x19).bind fun t317 => (if 0 ≤ x19 then (if x19 < (x5.length : Int) then ((wristbandref01_Rot.f k x11 2).bind fun t319 => ((wristbandref01_Rot.f k x11 13).bind fun t320 => ((wristbandref01_Rot.f k x11 22).bind fun t321 => (wristbandref02_Block.l1 k x0 x5 ((((((((((x18 + (Go.bits .xor .u32 (Go.bits .xor .u32 t314 t315) t316)) % 4294967296) + (Go.bits .or .u32 (Go.bits .and .u32 x15 x16) (Go.bits .and .u32 ((4294967295 - x15) % 4294967296) x17))) % 4294967296) + t317) % 4294967296) + (rd x5 x19)) % 4294967296) + (((Go.bits .xor .u32 (Go.bits .xor .u32 t319 t320) t321) + (Go.bits .or .u32 (Go.bits .or .u32 (Go.bits .and .u32 x11 x12) (Go.bits .and .u32 x11 x13)) (Go.bits .and .u32 x12 x13))) % 4294967296)) % 4294967296) x11 x12 x13 ((x14 + ((((((((x18 + (Go.bits .xor .u32 (Go.bits .xor .u32 t314 t315) t316)) % 4294967296) + (Go.bits .or .u32 (Go.bits .and .u32 x15 x16) (Go.bits .and .u32 ((4294967295 - x15) % 4294967296) x17))) % 4294967296) + t317) % 4294967296) + (rd x5 x19)) % 4294967296)) % 4294967296) x15 x16 x17 (wrap64 (x19 + 1)))))) else (none)) else (none)))))) else (if 0 < (x0.length : Int) then (if 1 < (x0.length : Int) then (if 2 < (x0.length : Int) then (if 3 < (x0.length : Int) then (if 4 < (x0.length : Int) then (if 5 < (x0.length : Int) then (if 6 < (x0.length : Int) then (if 7 < (x0.length : Int) then (some (([((rd x0 0) + x11) % 4294967296, ((rd x0 1) + x12) % 4294967296, ((rd x0 2) + x13) % 4294967296, ((rd x0 3) + x14) % 4294967296, ((rd x0 4) + x15) % 4294967296, ((rd x0 5) + x16) % 4294967296, ((rd x0 6) + x17) % 4294967296, ((rd x0 7) + x18) % 4294967296] : List Int))) else (none)) else (none)) else (none)) else (none)) else (none)) else (none)) else (none)) else (none))
end
def wristbandref02_Block.f (k : Nat) (l0 : List Int) (l1 : List Int) : Option (List Int) := (wristbandref01_Words.f k l1).bind fun t279 => (wristbandref02_Block.l0 k l0 t279 16)
theorem wristbandref02_Block.mono_l : ∀ k, (∀ y0 y1 y2, LeO (wristbandref02_Block.l0 k y0 y1 y2) (wristbandref02_Block.l0 (k + 1) y0 y1 y2)) ∧ (∀ y0 y1 y2 y3 y4 y5 y6 y7 y8 y9 y10, LeO (wristbandref02_Block.l1 k y0 y1 y2 y3 y4 y5 y6 y7 y8 y9 y10) (wristbandref02_Block.l1 (k + 1) y0 y1 y2 y3 y4 y5 y6 y7 y8 y9 y10))
  | 0 => ⟨fun _ _ _ r h => by simp [wristbandref02_Block.l0] at h, fun _ _ _ _ _ _ _ _ _ _ _ r h => by simp [wristbandref02_Block.l1] at h⟩
  | k + 1 => by
   obtain ⟨ih0, ih1⟩ := wristbandref02_Block.mono_l k
   refine ⟨?_, ?_⟩
   ·intro y0 y1 y2
    unfold wristbandref02_Block.l0
    repeat' first
    | (with_reducible exact ih0 _ _ _)
    | (with_reducible exact ih1 _ _ _ _ _ _ _ _ _ _ _)
    | (with_reducible exact wristbandref01_Rot.mono _ _ _)
    | (with_reducible exact wristbandref01_Words.mono _ _)
    | (with_reducible exact wristbandref02_down.mono _ _ _)
    | (with_reducible exact LeO.refl _)
    | (with_reducible exact LeO.none _)
    | (with_reducible refine LeO.ite ?_ ?_)
    | (with_reducible refine LeO.bind ?_ (fun _ => ?_))
    | exact ih0 _ _ _
    | exact ih1 _ _ _ _ _ _ _ _ _ _ _
    | exact wristbandref01_Rot.mono _ _ _
    | exact wristbandref01_Words.mono _ _
    | exact wristbandref02_down.mono _ _ _
    | exact LeO.none _
    | refine LeO.ite ?_ ?_
    | refine LeO.bind ?_ (fun _ => ?_)
   ·intro y0 y1 y2 y3 y4 y5 y6 y7 y8 y9 y10
    unfold wristbandref02_Block.l1
    repeat' first
    | (with_reducible exact ih0 _ _ _)
    | (with_reducible exact ih1 _ _ _ _ _ _ _ _ _ _ _)
    | (with_reducible exact wristbandref01_Rot.mono _ _ _)
    | (with_reducible exact wristbandref01_Words.mono _ _)
    | (with_reducible exact wristbandref02_down.mono _ _ _)
    | (with_reducible exact LeO.refl _)
    | (with_reducible exact LeO.none _)
    | (with_reducible refine LeO.ite ?_ ?_)
    | (with_reducible refine LeO.bind ?_ (fun _ => ?_))
    | exact ih0 _ _ _
    | exact ih1 _ _ _ _ _ _ _ _ _ _ _
    | exact wristbandref01_Rot.mono _ _ _
    | exact wristbandref01_Words.mono _ _
    | exact wristbandref02_down.mono _ _ _
    | exact LeO.none _
    | refine LeO.ite ?_ ?_
    | refine LeO.bind ?_ (fun _ => ?_)
theorem wristbandref02_Block.mono : ∀ a0 a1 k, LeO (wristbandref02_Block.f k a0 a1) (wristbandref02_Block.f (k + 1) a0 a1) := by
  intro a0 a1 k; obtain ⟨ih0, ih1⟩ := wristbandref02_Block.mono_l k
  unfold wristbandref02_Block.f
  repeat' first
    | (with_reducible exact ih0 _ _ _)
    | (with_reducible exact ih1 _ _ _ _ _ _ _ _ _ _ _)
    | (with_reducible exact wristbandref01_Rot.mono _ _ _)
    | (with_reducible exact wristbandref01_Words.mono _ _)
    | (with_reducible exact wristbandref02_down.mono _ _ _)
    | (with_reducible exact LeO.refl _)
    | (with_reducible exact LeO.none _)
    | (with_reducible refine LeO.ite ?_ ?_)
    | (with_reducible refine LeO.bind ?_ (fun _ => ?_))
    | exact ih0 _ _ _
    | exact ih1 _ _ _ _ _ _ _ _ _ _ _
    | exact wristbandref01_Rot.mono _ _ _
    | exact wristbandref01_Words.mono _ _
    | exact wristbandref02_down.mono _ _ _
    | exact LeO.none _
    | refine LeO.ite ?_ ?_
    | refine LeO.bind ?_ (fun _ => ?_)
def wristbandref02_Block.T9 : Bool × List (List Nat × List Nat) := (true, [([], []), ([], []), ([], []), ([], []), ([3], [3]), ([2, 4], [2, 4]), ([5], [5]), ([1, 6], [1, 6]), ([], []), ([7, 8], [7, 8]), ([], []), ([], []), ([11], [11]), ([10, 12], [10, 12]), ([13], [13]), ([9, 14], [9, 14]), ([15], [15]), ([0, 16], [0, 16]), ([17, 17, 0, 1, 2, 3, 4, 5, 6, 7, 8, 9, 10, 11, 12, 13, 14, 15, 16, 17], [0, 2, 10, 17])])
def wristbandref02_Block.B9 : List Nat := [0, 0, 0, 0, 8, 28, 60, 126, 0, 510, 0, 0, 2048, 7168, 15360, 32766, 65534, 131071, 262143]
theorem wristbandref02_Block.tab9 : rtab .any (opsOf Tryd.f18 9) = wristbandref02_Block.T9 := by kernel_rfl
theorem wristbandref02_Block.bits9 : waitsOk wristbandref02_Block.T9.2 wristbandref02_Block.B9 = true := by kernel_rfl
def wristbandref02_Block.T10 : Bool × List (List Nat × List Nat) := (true, [([], []), ([0], [0]), ([1], [1]), ([], []), ([3], [3]), ([4], [4]), ([], []), ([6], [6]), ([7], [7]), ([], []), ([9], [9]), ([10], [10]), ([2, 0, 1, 2], [2]), ([5, 12, 0, 1, 2, 3, 4, 5, 12], [5]), ([8, 13, 0, 1, 2, 3, 4, 5, 6, 7, 8, 12, 13], [8]), ([11, 14, 0, 1, 2, 3, 4, 5, 6, 7, 8, 9, 10, 11, 12, 13, 14], [11])])
def wristbandref02_Block.B10 : List Nat := [0, 1, 3, 0, 8, 24, 0, 64, 192, 0, 512, 1536, 7, 4159, 12799, 32767]
theorem wristbandref02_Block.tab10 : rtab .any (opsOf Tryd.f18 10) = wristbandref02_Block.T10 := by kernel_rfl
theorem wristbandref02_Block.bits10 : waitsOk wristbandref02_Block.T10.2 wristbandref02_Block.B10 = true := by kernel_rfl
def wristbandref02_Block.T11 : Bool × List (List Nat × List Nat) := (true, [([], []), ([0], [0]), ([1], [1]), ([], []), ([3], [3]), ([4], [4]), ([], []), ([6], [6]), ([7], [7]), ([], []), ([9], [9]), ([10], [10]), ([2, 0, 1, 2], [2]), ([5, 12, 0, 1, 2, 3, 4, 5, 12], [5]), ([8, 13, 0, 1, 2, 3, 4, 5, 6, 7, 8, 12, 13], [8]), ([11, 14, 0, 1, 2, 3, 4, 5, 6, 7, 8, 9, 10, 11, 12, 13, 14], [11])])
def wristbandref02_Block.B11 : List Nat := [0, 1, 3, 0, 8, 24, 0, 64, 192, 0, 512, 1536, 7, 4159, 12799, 32767]
theorem wristbandref02_Block.tab11 : rtab .any (opsOf Tryd.f18 11) = wristbandref02_Block.T11 := by kernel_rfl
theorem wristbandref02_Block.bits11 : waitsOk wristbandref02_Block.T11.2 wristbandref02_Block.B11 = true := by kernel_rfl
def wristbandref02_Block.T17 : Bool × List (List Nat × List Nat) := (true, [([], []), ([], []), ([0, 1], [0, 1]), ([], []), ([2, 3], [2, 3]), ([], []), ([5], [5]), ([4, 6], [4, 6]), ([], []), ([], []), ([8, 9], [8, 9]), ([10], [10]), ([7, 11], [7, 11]), ([12, 6, 0, 1, 2, 3, 4, 5, 6, 7, 8, 9, 10, 11, 12], [12])])
def wristbandref02_Block.B17 : List Nat := [0, 0, 3, 0, 15, 0, 32, 127, 0, 0, 768, 1792, 4095, 8191]
theorem wristbandref02_Block.tab17 : rtab .any (opsOf Tryd.f18 17) = wristbandref02_Block.T17 := by kernel_rfl
theorem wristbandref02_Block.bits17 : waitsOk wristbandref02_Block.T17.2 wristbandref02_Block.B17 = true := by kernel_rfl
def wristbandref02_Block.T29 : Bool × List (List Nat × List Nat) := (true, [([], []), ([0], [0]), ([1], [1]), ([], []), ([2, 3], [2, 3]), ([], []), ([5], [5]), ([6], [6]), ([], []), ([7, 8], [7, 8]), ([], []), ([10], [10]), ([11], [11]), ([], []), ([12, 13], [12, 13]), ([], []), ([15], [15]), ([16], [16]), ([], []), ([17, 18], [17, 18]), ([], []), ([20], [20]), ([21], [21]), ([], []), ([22, 23], [22, 23]), ([], []), ([25], [25]), ([26], [26]), ([], []), ([27, 28], [27, 28]), ([], []), ([30], [30]), ([31], [31]), ([], []), ([32, 33], [32, 33]), ([], []), ([35], [35]), ([36], [36]), ([], []), ([37, 38], [37, 38]), ([4, 9, 14, 19, 24, 29, 34, 39], [4, 9, 14, 19, 24, 29, 34, 39]), ([40, 0, 1, 2, 3, 4, 5, 6, 7, 8, 9, 10, 11, 12, 13, 14, 15, 16, 17, 18, 19, 20, 21, 22, 23, 24, 25, 26, 27, 28, 29, 30, 31, 32, 33, 34, 35, 36, 37, 38, 39, 40], [40])])
def wristbandref02_Block.B29 : List Nat := [0, 1, 3, 0, 15, 0, 32, 96, 0, 480, 0, 1024, 3072, 0, 15360, 0, 32768, 98304, 0, 491520, 0, 1048576, 3145728, 0, 15728640, 0, 33554432, 100663296, 0, 503316480, 0, 1073741824, 3221225472, 0, 16106127360, 0, 34359738368, 103079215104, 0, 515396075520, 1099511627775, 2199023255551]
theorem wristbandref02_Block.tab29 : rtab .any (opsOf Tryd.f18 29) = wristbandref02_Block.T29 := by kernel_rfl
theorem wristbandref02_Block.bits29 : waitsOk wristbandref02_Block.T29.2 wristbandref02_Block.B29 = true := by kernel_rfl
set_option maxHeartbeats 8000000 in
set_option maxRecDepth 100000 in
theorem wristbandref02_Block.calls (k : Nat) (A0 : Option Addr) (c0 : Nat) (l0 : List Int) (A1 : Option Addr) (c1 : Nat) (l1 : List Int) (r : List Int) (w : World) (hr0 : Kd.C (Kd.int .u32) w A0 l0.length l0) (hc0 : l0.length ≤ c0) (hr1 : Kd.C (Kd.int .u8) w A1 l1.length l1) (hc1 : l1.length ≤ c1) (h : wristbandref02_Block.f k l0 l1 = some r) :
   Calls Tryd.prog 18 #[.slice A0 l0.length c0, .slice A1 l1.length c1] w fun e w' => ∃ v0_ : Value, e = .returned (v0_) ∧ Kd.R (Kd.int .u32) 22 w' w.heap.size (fun _ => True) v0_ r ∧ Below w.heap.size w w' := by
  have HR0 := Aside0.mk hr0; have HC0 := Aside0.mk hc0; clear hr0 hc0; have HR1 := Aside0.mk hr1; have HC1 := Aside0.mk hc1; clear hr1 hc1; have HB := Aside0.mk (Below.refl w.heap.size w); have H : ((wristbandref01_Words.f k l1).bind fun t279 => (wristbandref02_Block.l0 k l0 t279 16)) = some r := h
  clear h; replace H := Option.bind_eq_some_iff.mp H
  obtain ⟨t279, A30, H⟩ := H
  replace H : (wristbandref02_Block.l0 k l0 t279 16) = some r := H
  have A3 := Aside0.mk A30; clear A30; have H' := Aside0.mk H; clear H; go_enter Tryd.func18, Tryd.ntmps18
  go_wp2_with (first | ((with_reducible refine gate_callee (f := 48) rfl ?_); refine goesL_ (some 27) rfl rfl Tryd.func48 (by kernel_rfl) rfl #[.slice A1 l1.length c1] rfl (by (try simp only [mT, mC, mN]); first | done | rfl | (simp only [List.length_drop, List.length_take]; rfl)) ?_; (with_reducible refine (wristbandref01_Words.calls k _ _ l1 t279 _ ?side1 ?side2 A3.out).mono ?_); (case side1 => repeat (first | exact HR1.out | (with_reducible refine Kd.C_alloc ?_ _) | (with_reducible refine Kd.C_drewN ?_ _) | (with_reducible refine Kd.C_drew ?_))); (case side2 => exact HC1.out); rintro e w4 ⟨v280, rfl, ho0, hb⟩; refine ⟨_, rfl, ?_⟩; have n0_ := Aside0.mk (Kd.R_lower ho0 (below_size (by repeat (first | (with_reducible first | exact HB.out | apply bA | apply bN | apply bD) | exact HB.out)))); have n1_ := Aside0.mk (below_step (by repeat (first | (with_reducible first | exact HB.out | apply bA | apply bN | apply bD) | exact HB.out)) hb); clear HB; have HO281 := n0_; have HB := n1_; clear n0_ n1_; (try clear hb); (try clear hb2); (try clear hk); (try clear hi); (try clear ho0)))
  go_loopg [5, 6] k (fun kq v5 v6 w' => ∃ (x5_1 : List Int) (x6_1 : Int), v6 = .int .i64 x6_1 ∧ Aside0 (wristbandref02_Block.l0 kq l0 x5_1 x6_1 = some r) ∧ Aside0 (kq ≤ k) ∧ Aside0 (Kd.R (Kd.int .u32) 22 w' w.heap.size (fun _ => True) v5 x5_1) ∧ Aside0 (Below w.heap.size w w'))
  case atStart => exact ⟨(t279), (16), (by first | rfl | (simp; done) | (simp [*]; done)), H', ⟨Nat.le_refl _⟩, ⟨by (with_reducible repeat (first | apply rL | apply rN | apply rW)); exact HO281.out⟩, ⟨by repeat (first | (with_reducible first | exact HB.out | apply bA | apply bN | apply bD) | exact HB.out)⟩⟩
  case round =>
   clear H'; try clear c1
   try clear p2
   try clear c4
   obtain ⟨x5_1, x6_1, rfl, HA, HK1, HO_5, HB⟩ := hrel
   cases gk with
   | zero => exact absurd HA.out (by simp [wristbandref02_Block.l0])
   | succ k1 =>
    have H := HA.out
    clear HA; simp only [wristbandref02_Block.l0] at H
    by_cases c5 : x6_1 < 64
    ·rw [if_pos c5] at H
     have c5b0 : decide (x6_1 < 64) = true := decide_eq_true c5
     clear c5; obtain ⟨ji6, hji6⟩ : ∃ j_ : Int, (wrap64 (x6_1 - 15)) = j_ := ⟨_, rfl⟩
     replace H : (if 0 ≤ (ji6) then (if (ji6) < (x5_1.length : Int) then (if 0 ≤ (wrap64 (x6_1 - 2)) then (if (wrap64 (x6_1 - 2)) < (x5_1.length : Int) then ((wristbandref01_Rot.f k1 (rd x5_1 (ji6)) 7).bind fun t284 => ((wristbandref01_Rot.f k1 (rd x5_1 (ji6)) 18).bind fun t285 => ((wristbandref02_down.f k1 (rd x5_1 (ji6)) 3).bind fun t286 => ((wristbandref01_Rot.f k1 (rd x5_1 (wrap64 (x6_1 - 2))) 17).bind fun t287 => ((wristbandref01_Rot.f k1 (rd x5_1 (wrap64 (x6_1 - 2))) 19).bind fun t288 => ((wristbandref02_down.f k1 (rd x5_1 (wrap64 (x6_1 - 2))) 10).bind fun t289 => (if 0 ≤ (wrap64 (x6_1 - 7)) then (if (wrap64 (x6_1 - 7)) < (x5_1.length : Int) then (if 0 ≤ (wrap64 (x6_1 - 16)) then (if (wrap64 (x6_1 - 16)) < (x5_1.length : Int) then (if x5_1.length < 35184372088832 then (wristbandref02_Block.l0 k1 l0 (x5_1 ++ [((((((Go.bits .xor .u32 (Go.bits .xor .u32 t287 t288) t289) + (rd x5_1 (wrap64 (x6_1 - 7)))) % 4294967296) + (Go.bits .xor .u32 (Go.bits .xor .u32 t284 t285) t286)) % 4294967296) + (rd x5_1 (wrap64 (x6_1 - 16)))) % 4294967296]) (wrap64 (x6_1 + 1))) else (none)) else (none)) else (none)) else (none)) else (none)))))))) else (none)) else (none)) else (none)) else (none)) = some r := by first | (rw [hji6] at H; exact H) | (simp only [hji6] at H ⊢; exact H)
     have hji6w : (IntKind.i64.wrap (x6_1 - 15)) = ji6 := (i64_w _).trans hji6
     by_cases c7 : 0 ≤ (ji6)
     ·rw [if_pos c7] at H
      have c7b0 : decide (0 ≤ (ji6)) = true := decide_eq_true c7
      clear c7; by_cases c8 : (ji6) < (x5_1.length : Int)
      ·rw [if_pos c8] at H
       have c8b0 : decide ((ji6) < (x5_1.length : Int)) = true := decide_eq_true c8
       clear c8; obtain ⟨ji9, hji9⟩ : ∃ j_ : Int, (wrap64 (x6_1 - 2)) = j_ := ⟨_, rfl⟩
       replace H : (if 0 ≤ (ji9) then (if (ji9) < (x5_1.length : Int) then ((wristbandref01_Rot.f k1 (rd x5_1 (ji6)) 7).bind fun t284 => ((wristbandref01_Rot.f k1 (rd x5_1 (ji6)) 18).bind fun t285 => ((wristbandref02_down.f k1 (rd x5_1 (ji6)) 3).bind fun t286 => ((wristbandref01_Rot.f k1 (rd x5_1 (ji9)) 17).bind fun t287 => ((wristbandref01_Rot.f k1 (rd x5_1 (ji9)) 19).bind fun t288 => ((wristbandref02_down.f k1 (rd x5_1 (ji9)) 10).bind fun t289 => (if 0 ≤ (wrap64 (x6_1 - 7)) then (if (wrap64 (x6_1 - 7)) < (x5_1.length : Int) then (if 0 ≤ (wrap64 (x6_1 - 16)) then (if (wrap64 (x6_1 - 16)) < (x5_1.length : Int) then (if x5_1.length < 35184372088832 then (wristbandref02_Block.l0 k1 l0 (x5_1 ++ [((((((Go.bits .xor .u32 (Go.bits .xor .u32 t287 t288) t289) + (rd x5_1 (wrap64 (x6_1 - 7)))) % 4294967296) + (Go.bits .xor .u32 (Go.bits .xor .u32 t284 t285) t286)) % 4294967296) + (rd x5_1 (wrap64 (x6_1 - 16)))) % 4294967296]) (wrap64 (x6_1 + 1))) else (none)) else (none)) else (none)) else (none)) else (none)))))))) else (none)) else (none)) = some r := by first | (rw [hji9] at H; exact H) | (simp only [hji9] at H ⊢; exact H)
       have hji9w : (IntKind.i64.wrap (x6_1 - 2)) = ji9 := (i64_w _).trans hji9
       by_cases c10 : 0 ≤ (ji9)
       ·rw [if_pos c10] at H
        have c10b0 : decide (0 ≤ (ji9)) = true := decide_eq_true c10
        clear c10; by_cases c11 : (ji9) < (x5_1.length : Int)
        ·rw [if_pos c11] at H
         have c11b0 : decide ((ji9) < (x5_1.length : Int)) = true := decide_eq_true c11
         clear c11; replace H := Option.bind_eq_some_iff.mp H
         obtain ⟨t284, A120, H⟩ := H
         replace H : ((wristbandref01_Rot.f k1 (rd x5_1 (ji6)) 18).bind fun t285 => ((wristbandref02_down.f k1 (rd x5_1 (ji6)) 3).bind fun t286 => ((wristbandref01_Rot.f k1 (rd x5_1 (ji9)) 17).bind fun t287 => ((wristbandref01_Rot.f k1 (rd x5_1 (ji9)) 19).bind fun t288 => ((wristbandref02_down.f k1 (rd x5_1 (ji9)) 10).bind fun t289 => (if 0 ≤ (wrap64 (x6_1 - 7)) then (if (wrap64 (x6_1 - 7)) < (x5_1.length : Int) then (if 0 ≤ (wrap64 (x6_1 - 16)) then (if (wrap64 (x6_1 - 16)) < (x5_1.length : Int) then (if x5_1.length < 35184372088832 then (wristbandref02_Block.l0 k1 l0 (x5_1 ++ [((((((Go.bits .xor .u32 (Go.bits .xor .u32 t287 t288) t289) + (rd x5_1 (wrap64 (x6_1 - 7)))) % 4294967296) + (Go.bits .xor .u32 (Go.bits .xor .u32 t284 t285) t286)) % 4294967296) + (rd x5_1 (wrap64 (x6_1 - 16)))) % 4294967296]) (wrap64 (x6_1 + 1))) else (none)) else (none)) else (none)) else (none)) else (none))))))) = some r := H
         have A12 := Aside0.mk A120; clear A120; replace H := Option.bind_eq_some_iff.mp H
         obtain ⟨t285, A130, H⟩ := H
         replace H : ((wristbandref02_down.f k1 (rd x5_1 (ji6)) 3).bind fun t286 => ((wristbandref01_Rot.f k1 (rd x5_1 (ji9)) 17).bind fun t287 => ((wristbandref01_Rot.f k1 (rd x5_1 (ji9)) 19).bind fun t288 => ((wristbandref02_down.f k1 (rd x5_1 (ji9)) 10).bind fun t289 => (if 0 ≤ (wrap64 (x6_1 - 7)) then (if (wrap64 (x6_1 - 7)) < (x5_1.length : Int) then (if 0 ≤ (wrap64 (x6_1 - 16)) then (if (wrap64 (x6_1 - 16)) < (x5_1.length : Int) then (if x5_1.length < 35184372088832 then (wristbandref02_Block.l0 k1 l0 (x5_1 ++ [((((((Go.bits .xor .u32 (Go.bits .xor .u32 t287 t288) t289) + (rd x5_1 (wrap64 (x6_1 - 7)))) % 4294967296) + (Go.bits .xor .u32 (Go.bits .xor .u32 t284 t285) t286)) % 4294967296) + (rd x5_1 (wrap64 (x6_1 - 16)))) % 4294967296]) (wrap64 (x6_1 + 1))) else (none)) else (none)) else (none)) else (none)) else (none)))))) = some r := H
         have A13 := Aside0.mk A130; clear A130; replace H := Option.bind_eq_some_iff.mp H
         obtain ⟨t286, A140, H⟩ := H
         replace H : ((wristbandref01_Rot.f k1 (rd x5_1 (ji9)) 17).bind fun t287 => ((wristbandref01_Rot.f k1 (rd x5_1 (ji9)) 19).bind fun t288 => ((wristbandref02_down.f k1 (rd x5_1 (ji9)) 10).bind fun t289 => (if 0 ≤ (wrap64 (x6_1 - 7)) then (if (wrap64 (x6_1 - 7)) < (x5_1.length : Int) then (if 0 ≤ (wrap64 (x6_1 - 16)) then (if (wrap64 (x6_1 - 16)) < (x5_1.length : Int) then (if x5_1.length < 35184372088832 then (wristbandref02_Block.l0 k1 l0 (x5_1 ++ [((((((Go.bits .xor .u32 (Go.bits .xor .u32 t287 t288) t289) + (rd x5_1 (wrap64 (x6_1 - 7)))) % 4294967296) + (Go.bits .xor .u32 (Go.bits .xor .u32 t284 t285) t286)) % 4294967296) + (rd x5_1 (wrap64 (x6_1 - 16)))) % 4294967296]) (wrap64 (x6_1 + 1))) else (none)) else (none)) else (none)) else (none)) else (none))))) = some r := H
         have A14 := Aside0.mk A140; clear A140; replace H := Option.bind_eq_some_iff.mp H
         obtain ⟨t287, A150, H⟩ := H
         replace H : ((wristbandref01_Rot.f k1 (rd x5_1 (ji9)) 19).bind fun t288 => ((wristbandref02_down.f k1 (rd x5_1 (ji9)) 10).bind fun t289 => (if 0 ≤ (wrap64 (x6_1 - 7)) then (if (wrap64 (x6_1 - 7)) < (x5_1.length : Int) then (if 0 ≤ (wrap64 (x6_1 - 16)) then (if (wrap64 (x6_1 - 16)) < (x5_1.length : Int) then (if x5_1.length < 35184372088832 then (wristbandref02_Block.l0 k1 l0 (x5_1 ++ [((((((Go.bits .xor .u32 (Go.bits .xor .u32 t287 t288) t289) + (rd x5_1 (wrap64 (x6_1 - 7)))) % 4294967296) + (Go.bits .xor .u32 (Go.bits .xor .u32 t284 t285) t286)) % 4294967296) + (rd x5_1 (wrap64 (x6_1 - 16)))) % 4294967296]) (wrap64 (x6_1 + 1))) else (none)) else (none)) else (none)) else (none)) else (none)))) = some r := H
         have A15 := Aside0.mk A150; clear A150; replace H := Option.bind_eq_some_iff.mp H
         obtain ⟨t288, A160, H⟩ := H
         replace H : ((wristbandref02_down.f k1 (rd x5_1 (ji9)) 10).bind fun t289 => (if 0 ≤ (wrap64 (x6_1 - 7)) then (if (wrap64 (x6_1 - 7)) < (x5_1.length : Int) then (if 0 ≤ (wrap64 (x6_1 - 16)) then (if (wrap64 (x6_1 - 16)) < (x5_1.length : Int) then (if x5_1.length < 35184372088832 then (wristbandref02_Block.l0 k1 l0 (x5_1 ++ [((((((Go.bits .xor .u32 (Go.bits .xor .u32 t287 t288) t289) + (rd x5_1 (wrap64 (x6_1 - 7)))) % 4294967296) + (Go.bits .xor .u32 (Go.bits .xor .u32 t284 t285) t286)) % 4294967296) + (rd x5_1 (wrap64 (x6_1 - 16)))) % 4294967296]) (wrap64 (x6_1 + 1))) else (none)) else (none)) else (none)) else (none)) else (none))) = some r := H
         have A16 := Aside0.mk A160; clear A160; replace H := Option.bind_eq_some_iff.mp H
         obtain ⟨t289, A170, H⟩ := H
         replace H : (if 0 ≤ (wrap64 (x6_1 - 7)) then (if (wrap64 (x6_1 - 7)) < (x5_1.length : Int) then (if 0 ≤ (wrap64 (x6_1 - 16)) then (if (wrap64 (x6_1 - 16)) < (x5_1.length : Int) then (if x5_1.length < 35184372088832 then (wristbandref02_Block.l0 k1 l0 (x5_1 ++ [((((((Go.bits .xor .u32 (Go.bits .xor .u32 t287 t288) t289) + (rd x5_1 (wrap64 (x6_1 - 7)))) % 4294967296) + (Go.bits .xor .u32 (Go.bits .xor .u32 t284 t285) t286)) % 4294967296) + (rd x5_1 (wrap64 (x6_1 - 16)))) % 4294967296]) (wrap64 (x6_1 + 1))) else (none)) else (none)) else (none)) else (none)) else (none)) = some r := H
         have A17 := Aside0.mk A170; clear A170; obtain ⟨ji18, hji18⟩ : ∃ j_ : Int, (wrap64 (x6_1 - 7)) = j_ := ⟨_, rfl⟩
         replace H : (if 0 ≤ (ji18) then (if (ji18) < (x5_1.length : Int) then (if 0 ≤ (wrap64 (x6_1 - 16)) then (if (wrap64 (x6_1 - 16)) < (x5_1.length : Int) then (if x5_1.length < 35184372088832 then (wristbandref02_Block.l0 k1 l0 (x5_1 ++ [((((((Go.bits .xor .u32 (Go.bits .xor .u32 t287 t288) t289) + (rd x5_1 (ji18))) % 4294967296) + (Go.bits .xor .u32 (Go.bits .xor .u32 t284 t285) t286)) % 4294967296) + (rd x5_1 (wrap64 (x6_1 - 16)))) % 4294967296]) (wrap64 (x6_1 + 1))) else (none)) else (none)) else (none)) else (none)) else (none)) = some r := by first | (rw [hji18] at H; exact H) | (simp only [hji18] at H ⊢; exact H)
         (try rw [hji18] at A12)
         (try rw [hji18] at A13)
         (try rw [hji18] at A14)
         (try rw [hji18] at A15)
         (try rw [hji18] at A16)
         (try rw [hji18] at A17)
         have hji18w : (IntKind.i64.wrap (x6_1 - 7)) = ji18 := (i64_w _).trans hji18
         by_cases c19 : 0 ≤ (ji18)
         ·rw [if_pos c19] at H
          have c19b0 : decide (0 ≤ (ji18)) = true := decide_eq_true c19
          clear c19; by_cases c20 : (ji18) < (x5_1.length : Int)
          ·rw [if_pos c20] at H
           have c20b0 : decide ((ji18) < (x5_1.length : Int)) = true := decide_eq_true c20
           clear c20; obtain ⟨ji21, hji21⟩ : ∃ j_ : Int, (wrap64 (x6_1 - 16)) = j_ := ⟨_, rfl⟩
           replace H : (if 0 ≤ (ji21) then (if (ji21) < (x5_1.length : Int) then (if x5_1.length < 35184372088832 then (wristbandref02_Block.l0 k1 l0 (x5_1 ++ [((((((Go.bits .xor .u32 (Go.bits .xor .u32 t287 t288) t289) + (rd x5_1 (ji18))) % 4294967296) + (Go.bits .xor .u32 (Go.bits .xor .u32 t284 t285) t286)) % 4294967296) + (rd x5_1 (ji21))) % 4294967296]) (wrap64 (x6_1 + 1))) else (none)) else (none)) else (none)) = some r := by first | (rw [hji21] at H; exact H) | (simp only [hji21] at H ⊢; exact H)
           (try rw [hji21] at A12)
           (try rw [hji21] at A13)
           (try rw [hji21] at A14)
           (try rw [hji21] at A15)
           (try rw [hji21] at A16)
           (try rw [hji21] at A17)
           have hji21w : (IntKind.i64.wrap (x6_1 - 16)) = ji21 := (i64_w _).trans hji21
           by_cases c22 : 0 ≤ (ji21)
           ·rw [if_pos c22] at H
            have c22b0 : decide (0 ≤ (ji21)) = true := decide_eq_true c22
            clear c22; by_cases c23 : (ji21) < (x5_1.length : Int)
            ·rw [if_pos c23] at H
             have c23b0 : decide ((ji21) < (x5_1.length : Int)) = true := decide_eq_true c23
             clear c23; by_cases c24 : x5_1.length < 35184372088832
             ·rw [if_pos c24] at H
              have LMc24 := Aside0.mk c24; clear c24; obtain ⟨y292, hy292⟩ : ∃ y_ : List Int, y_ = (x5_1 ++ [((((((Go.bits .xor .u32 (Go.bits .xor .u32 t287 t288) t289) + (rd x5_1 (ji18))) % 4294967296) + (Go.bits .xor .u32 (Go.bits .xor .u32 t284 t285) t286)) % 4294967296) + (rd x5_1 (ji21))) % 4294967296]) := ⟨_, rfl⟩
              replace H : (wristbandref02_Block.l0 k1 l0 y292 (wrap64 (x6_1 + 1))) = some r := by first | (rw [hy292]; with_reducible exact H) | (have H2_ := (Option.bind_some _ _).symm.trans H; rw [hy292]; with_reducible exact H2_) | (have H2_ := (Option.bind_some _ _).symm.trans H; with_reducible exact H2_) | with_reducible exact H | (rw [hy292]; exact H) | exact H
              have Ny292 := Aside0.mk hy292; clear hy292; have H' := Aside0.mk H; clear H; obtain ⟨Ao25, co25, eo25⟩ := Kd.R_slice HO_5.out
              subst eo25; have p282 : 0 ≤ ((ji6) : Int) := of_decide_eq_true (by first | (with_reducible assumption) | assumption)
              have q282 : (ji6) < (x5_1.length : Int) := of_decide_eq_true (by first | (with_reducible assumption) | assumption)
              obtain ⟨ad282, e282, hx282_0⟩ := Kd.at_int (Kd.R_reads' HO_5.out).2.2 (ji6) p282 q282
              cases e282
              replace p282 := eq_true p282
              replace q282 := eq_true q282
              have p283 : 0 ≤ ((ji9) : Int) := of_decide_eq_true (by first | (with_reducible assumption) | assumption)
              have q283 : (ji9) < (x5_1.length : Int) := of_decide_eq_true (by first | (with_reducible assumption) | assumption)
              obtain ⟨ad283, e283, hx283_0⟩ := Kd.at_int (Kd.R_reads' HO_5.out).2.2 (ji9) p283 q283
              obtain rfl : ad282 = ad283 := (by injection e283)
              replace p283 := eq_true p283
              replace q283 := eq_true q283
              try go_wp2_with (first | ((with_reducible refine gate_callee (f := 49) rfl ?_); refine goesL_ (some 43) rfl rfl Tryd.func49 (by kernel_rfl) rfl #[.int .u32 (rd x5_1 (ji6)), .int .i64 7] rfl (by (try simp only [mT, mC, mN]); first | done | (simp only [hji6]; rfl) | rfl | (simp only [List.length_drop, List.length_take]; rfl)) ?_; (with_reducible refine (wristbandref01_Rot.calls k1 (rd x5_1 (ji6)) 7 t284 _ A12.out).mono ?_); rintro e w' ⟨rfl, ⟨nd, rfl⟩⟩; refine ⟨_, rfl, ?_⟩) | ((with_reducible refine gate_callee (f := 49) rfl ?_); refine goesL_ (some 45) rfl rfl Tryd.func49 (by kernel_rfl) rfl #[.int .u32 (rd x5_1 (ji6)), .int .i64 18] rfl (by (try simp only [mT, mC, mN]); first | done | (simp only [hji6]; rfl) | rfl | (simp only [List.length_drop, List.length_take]; rfl)) ?_; (with_reducible refine (wristbandref01_Rot.calls k1 (rd x5_1 (ji6)) 18 t285 _ A13.out).mono ?_); rintro e w' ⟨rfl, ⟨nd, rfl⟩⟩; refine ⟨_, rfl, ?_⟩) | ((with_reducible refine gate_callee (f := 50) rfl ?_); refine goesL_ (some 48) rfl rfl Tryd.func50 (by kernel_rfl) rfl #[.int .u32 (rd x5_1 (ji6)), .int .i64 3] rfl (by (try simp only [mT, mC, mN]); first | done | (simp only [hji6]; rfl) | rfl | (simp only [List.length_drop, List.length_take]; rfl)) ?_; (with_reducible refine (wristbandref02_down.calls k1 (rd x5_1 (ji6)) 3 t286 _ A14.out).mono ?_); rintro e w' ⟨rfl, ⟨nd, rfl⟩⟩; refine ⟨_, rfl, ?_⟩) | ((with_reducible refine gate_callee (f := 49) rfl ?_); refine goesL_ (some 51) rfl rfl Tryd.func49 (by kernel_rfl) rfl #[.int .u32 (rd x5_1 (ji9)), .int .i64 17] rfl (by (try simp only [mT, mC, mN]); first | done | (simp only [hji9]; rfl) | rfl | (simp only [List.length_drop, List.length_take]; rfl)) ?_; (with_reducible refine (wristbandref01_Rot.calls k1 (rd x5_1 (ji9)) 17 t287 _ A15.out).mono ?_); rintro e w' ⟨rfl, ⟨nd, rfl⟩⟩; refine ⟨_, rfl, ?_⟩) | ((with_reducible refine gate_callee (f := 49) rfl ?_); refine goesL_ (some 53) rfl rfl Tryd.func49 (by kernel_rfl) rfl #[.int .u32 (rd x5_1 (ji9)), .int .i64 19] rfl (by (try simp only [mT, mC, mN]); first | done | (simp only [hji9]; rfl) | rfl | (simp only [List.length_drop, List.length_take]; rfl)) ?_; (with_reducible refine (wristbandref01_Rot.calls k1 (rd x5_1 (ji9)) 19 t288 _ A16.out).mono ?_); rintro e w' ⟨rfl, ⟨nd, rfl⟩⟩; refine ⟨_, rfl, ?_⟩) | ((with_reducible refine gate_callee (f := 50) rfl ?_); refine goesL_ (some 56) rfl rfl Tryd.func50 (by kernel_rfl) rfl #[.int .u32 (rd x5_1 (ji9)), .int .i64 10] rfl (by (try simp only [mT, mC, mN]); first | done | (simp only [hji9]; rfl) | rfl | (simp only [List.length_drop, List.length_take]; rfl)) ?_; (with_reducible refine (wristbandref02_down.calls k1 (rd x5_1 (ji9)) 10 t289 _ A17.out).mono ?_); rintro e w' ⟨rfl, ⟨nd, rfl⟩⟩; refine ⟨_, rfl, ?_⟩))
              (try (rw [drewN_self wr]; generalize hq_ : World.drewN wr _ = wr; have n0_ : Aside0 (Kd.R (Kd.int .u32) 22 wr w.heap.size (fun _ => True) (.slice (some ad282) x5_1.length co25) x5_1) := ⟨by rw [← hq_]; exact (by (with_reducible repeat (first | apply rL | apply rN | apply rW)); exact HO_5.out)⟩; have n1_ : Aside0 (Below w.heap.size w wr) := ⟨by rw [← hq_]; exact (by repeat (first | (with_reducible first | exact HB.out | apply bA | apply bN | apply bD) | exact HB.out))⟩; clear HO_5 HB hq_; have HO_5 := n0_; have HB := n1_; clear n0_ n1_))
              have n0_ := Aside0.mk (Kd.R_drew HO_5.out); have n1_ := Aside0.mk (below_drew1 HB.out); clear HO_5; clear HB; have HO_5 := n0_; have HB := n1_; clear n0_ n1_; have p290 : 0 ≤ ((ji18) : Int) := of_decide_eq_true (by first | (with_reducible assumption) | assumption)
              have q290 : (ji18) < (x5_1.length : Int) := of_decide_eq_true (by first | (with_reducible assumption) | assumption)
              obtain ⟨ad290, e290, hx290_0⟩ := Kd.at_int (Kd.R_reads' HO_5.out).2.2 (ji18) p290 q290
              obtain rfl : ad282 = ad290 := (by injection e290)
              replace p290 := eq_true p290
              replace q290 := eq_true q290
              have p291 : 0 ≤ ((ji21) : Int) := of_decide_eq_true (by first | (with_reducible assumption) | assumption)
              have q291 : (ji21) < (x5_1.length : Int) := of_decide_eq_true (by first | (with_reducible assumption) | assumption)
              obtain ⟨ad291, e291, hx291_0⟩ := Kd.at_int (Kd.R_reads' HO_5.out).2.2 (ji21) p291 q291
              obtain rfl : ad282 = ad291 := (by injection e291)
              replace p291 := eq_true p291
              replace q291 := eq_true q291
              refine start_ (n := 19) (S := fun w' => w'.cell? (ad282.add ((ji18)).toNat) = some (.int .u32 (rd x5_1 (ji18))) ∧ w'.cell? (ad282.add ((ji21)).toNat) = some (.int .u32 (rd x5_1 (ji21)))) (ds := [16, 17]) #[false, false, false, false, false, false, false, false, false, false, false, false, false, false, false, false, false, false, false] (by kernel_rfl) rfl rfl ⟨hx290_0, hx291_0⟩ (fun hHeld => ?_); refine with_tabW wristbandref02_Block.tab9 wristbandref02_Block.bits9 (fun HT_ HW_ => ?_)
              generalize wr.drew = w26 at HO_5 HB hx290_0 hx291_0 hHeld ⊢
              refine pu_ 0 58 (rA [1,18]) HT_ (by kernel_rfl) rfl rfl (fun _ _ _ => id) (.inl ⟨by rfl, fun w' => by go_simp; with_reducible rfl⟩) (by simp only [Act.put, sA, s0, sS, i64_w, i32_w]; rfl) ?_
              refine pu_ 1 59 (rA [2,17]) HT_ (by kernel_rfl) rfl rfl (fun _ _ _ => id) (.inl ⟨by rfl, fun w' => by go_simp; with_reducible rfl⟩) (by simp only [Act.put, sA, s0, sS, i64_w, i32_w]; rfl) ?_
              refine pu_ 2 60 (rA [3,16]) HT_ (by kernel_rfl) rfl rfl (fun _ _ _ => id) (.inl ⟨by rfl, fun w' => by go_simp; with_reducible rfl⟩) (by simp only [Act.put, sA, s0, sS, i64_w, i32_w]; rfl) ?_
              refine pu_ 3 61 (rA [4,15]) HT_ (by kernel_rfl) rfl rfl (fun _ _ _ => id) (.inl ⟨by rfl, fun w' => by go_simp; with_reducible rfl⟩) (by simp only [Act.put, sA, s0, sS, i64_w, i32_w]; rfl) ?_
              refine pu_ 4 62 (rA [5,14]) HT_ (by kernel_rfl) rfl rfl (fun _ _ _ => id) (.inl ⟨by rfl, fun w' => by go_simp; with_reducible rfl⟩) (by simp only [Act.put, sA, s0, sS, i64_w, i32_w]; rfl) ?_
              refine pu_ 5 63 (rA [6,13]) HT_ (by kernel_rfl) rfl rfl (fun _ _ _ => id) (.inl ⟨by rfl, fun w' => by go_simp; with_reducible rfl⟩) (by simp only [Act.put, sA, s0, sS, i64_w, i32_w]; rfl) ?_
              refine pu_ 8 66 (rA [6,2,1,10]) HT_ (by kernel_rfl) rfl rfl (fun _ _ _ => id) (.inl ⟨by rfl, fun w' => by go_simp; with_reducible rfl⟩) (by simp only [Act.put, sA, s0, sS, i64_w, i32_w]; rfl) ?_
              refine pu_ 10 68 (rA [6,2,1,1,1,8]) HT_ (by kernel_rfl) rfl rfl (fun _ _ _ => id) (.inl ⟨by rfl, fun w' => by go_simp; with_reducible rfl⟩) (by simp only [Act.put, sA, s0, sS, i64_w, i32_w]; rfl) ?_
              refine pu_ 11 69 (rA [6,2,1,1,2,7]) HT_ (by kernel_rfl) rfl rfl (fun _ _ _ => id) (.inl ⟨by rfl, fun w' => by go_simp; with_reducible rfl⟩) (by simp only [Act.put, sA, s0, sS, i64_w, i32_w]; rfl) ?_
              refine pu_ 12 70 (rA [6,2,1,1,3,6]) HT_ (by kernel_rfl) rfl rfl (fun _ _ _ => id) (.inl ⟨by rfl, fun w' => by go_simp; with_reducible rfl⟩) (by simp only [Act.put, sA, s0, sS, i64_w, i32_w]; rfl) ?_
              refine pu_ 13 71 (rA [6,2,1,1,4,5]) HT_ (by kernel_rfl) rfl rfl (fun _ _ _ => id) (.inl ⟨by rfl, fun w' => by go_simp; with_reducible rfl⟩) (by simp only [Act.put, sA, s0, sS, i64_w, i32_w]; rfl) ?_
              refine take_ (i := 6) (N := some 64) (v := ?_) (a' := ?_) #[true, true, true, true, true, true, true, false, true, false, true, true, true, true, false, false, false, false, false] rfl rfl (take_ofW HT_.out HW_.out (by kernel_rfl)) (fun _ _ _ h => h) (Or.inl ⟨by rfl, ?_⟩) hHeld ?_ ?_
              rotate_left
              ·rintro w' ⟨s0, s1⟩
               go_simp
               with_reducible rfl
              rotate_left
              ·simp only [Act.put, sA, s0, sS, i64_w, i32_w]
               rfl
              refine pu_ 7 65 (rA [9,1,4,5]) HT_ (by kernel_rfl) rfl rfl (fun _ _ _ => id) (.inl ⟨by rfl, fun w' => by go_simp; with_reducible rfl⟩) (by simp only [Act.put, sA, s0, sS, i64_w, i32_w]; rfl) ?_
              refine pu_ 9 67 (rA [14,5]) HT_ (by kernel_rfl) rfl rfl (fun _ _ _ => id) (.inl ⟨by rfl, fun w' => by go_simp; with_reducible rfl⟩) (by simp only [Act.put, sA, s0, sS, i64_w, i32_w]; rfl) ?_
              refine take_ (i := 14) (N := some 72) (v := ?_) (a' := ?_) #[true, true, true, true, true, true, true, true, true, true, true, true, true, true, true, false, false, false, false] rfl rfl (take_ofW HT_.out HW_.out (by kernel_rfl)) (fun _ _ _ h => h) (Or.inl ⟨by rfl, ?_⟩) hHeld ?_ ?_
              rotate_left
              ·rintro w' ⟨s0, s1⟩
               go_simp
               with_reducible rfl
              rotate_left
              ·simp only [Act.put, sA, s0, sS, i64_w, i32_w]
               rfl
              refine pu_ 15 73 (rA [16,3]) HT_ (by kernel_rfl) rfl rfl (fun _ _ _ => id) (.inl ⟨by rfl, fun w' => by go_simp; with_reducible rfl⟩) (by simp only [Act.put, sA, s0, sS, i64_w, i32_w]; rfl) ?_
              refine last_ (i := 16) (N := some 74) #[true, true, true, true, true, true, true, true, true, true, true, true, true, true, true, true, true, false, false] rfl rfl (one_of HT_.out (by kernel_rfl)) (by decide) (fun K hK => ?_)
              refine value_ (w1 := ?_) (v := ?_) (by rfl) rfl ?_ ?_
              rotate_left 2
              ·go_simp
               constructor
               ·rfl
               ·rfl
              refine hK.out _ _ ?_
              clear hK K; refine norm_ (a' := ?_) ?_ ?_
              rotate_left
              ·show Act.put _ (some 74) _ = _
               simp only [Act.put, sA, s0, sS, i64_w, i32_w]
               rfl
              refine last_ (i := 17) (N := some 75) #[true, true, true, true, true, true, true, true, true, true, true, true, true, true, true, true, true, true, false] rfl rfl (one_of HT_.out (by kernel_rfl)) (by decide) (fun K hK => ?_)
              refine Kd.R_append_step (Kd.int .u32) (w0 := w) w.heap.size (by rfl) (.tmp 58) (.tmp 74) 34 22 (.int .u32 0) 4 rfl Tryd.underlying34 info22 rfl (by decide) (by omega) (.slice (some ad282) x5_1.length co25) x5_1 (((((((Go.bits .xor .u32 (Go.bits .xor .u32 t287 t288) t289) + (rd x5_1 (ji18))) % 4294967296) + (Go.bits .xor .u32 (Go.bits .xor .u32 t284 t285) t286)) % 4294967296) + (rd x5_1 (ji21))) % 4294967296) [.int .u32 (((((((Go.bits .xor .u32 (Go.bits .xor .u32 t287 t288) t289) + (rd x5_1 (ji18))) % 4294967296) + (Go.bits .xor .u32 (Go.bits .xor .u32 t284 t285) t286)) % 4294967296) + (rd x5_1 (ji21))) % 4294967296)] (fun _ => True) (fun _ => False) rfl rfl ?aP (fun _ hk => hk.elim) ?aF ?aO ?aB ?aS ?aL ?_
              (case aP => exact rfl)
              (case aB => exact (by repeat (first | (with_reducible first | exact HB.out | apply bA | apply bN | apply bD) | exact HB.out)))
              (case aF => exact (fun _ _ => trivial))
              (case aO => exact (by (with_reducible repeat (first | apply rL | apply rN | apply rW)); exact HO_5.out))
              (case aS => exact (below_size (by repeat (first | (with_reducible first | exact HB.out | apply bA | apply bN | apply bD) | exact HB.out))))
              (case aL => have := LMc24.out; omega)
              intro v293 w27 ho hb hg hat; rw [← Ny292.out] at ho
              have n0_ := Aside0.mk (hb); have n1_ := Aside0.mk (ho); clear HB; clear HO_5; have HB := n0_; have HO294 := n1_; clear n0_ n1_; clear ho hb hg hat; refine hK.out _ _ ?_
              clear hK K; refine norm_ (a' := ?_) ?_ ?_
              rotate_left
              ·show Act.put _ (some 75) _ = _
               simp only [Act.put, sA, s0, sS, i64_w, i32_w]
               rfl
              refine pu_ 18 5 (rA [19]) HT_ (by kernel_rfl) rfl rfl (fun _ _ _ => id) (.inl ⟨by rfl, fun w' => by go_simp; with_reducible rfl⟩) (by simp only [Act.put, sA, s0, sS, i64_w, i32_w]; rfl) ?_
              refine done_ (done_of HT_.out (by kernel_rfl)) ?_
              try go_wp2
              go_roundg k1
              case measure => have := HK1.out; omega
              case rel => exact ⟨(y292), (wrap64 (x6_1 + 1)), (by first | rfl | (simp; done) | (simp [*]; done)), H', ⟨by have := HK1.out; omega⟩, ⟨by (with_reducible repeat (first | apply rL | apply rN | apply rW)); exact HO294.out⟩, ⟨by repeat (first | (with_reducible first | exact HB.out | apply bA | apply bN | apply bD) | exact HB.out)⟩⟩
             ·rw [if_neg c24] at H
              exact absurd H (by simp)
            ·rw [if_neg c23] at H
             exact absurd H (by simp)
           ·rw [if_neg c22] at H
            exact absurd H (by simp)
          ·rw [if_neg c20] at H
           exact absurd H (by simp)
         ·rw [if_neg c19] at H
          exact absurd H (by simp)
        ·rw [if_neg c11] at H
         exact absurd H (by simp)
       ·rw [if_neg c10] at H
        exact absurd H (by simp)
      ·rw [if_neg c8] at H
       exact absurd H (by simp)
     ·rw [if_neg c7] at H
      exact absurd H (by simp)
    ·rw [if_neg c5] at H
     have c5b0 : decide (x6_1 < 64) = false := decide_eq_false c5
     clear c5; by_cases c28 : 0 < (l0.length : Int)
     ·rw [if_pos c28] at H
      have c28b0 : decide (0 < (l0.length : Int)) = true := decide_eq_true c28
      have c28b1 : decide (0 < l0.length) = true := decide_eq_true (by omega)
      clear c28; by_cases c29 : 1 < (l0.length : Int)
      ·rw [if_pos c29] at H
       have c29b0 : decide (1 < (l0.length : Int)) = true := decide_eq_true c29
       have c29b1 : decide (1 < l0.length) = true := decide_eq_true (by omega)
       clear c29; by_cases c30 : 2 < (l0.length : Int)
       ·rw [if_pos c30] at H
        have c30b0 : decide (2 < (l0.length : Int)) = true := decide_eq_true c30
        have c30b1 : decide (2 < l0.length) = true := decide_eq_true (by omega)
        clear c30; by_cases c31 : 3 < (l0.length : Int)
        ·rw [if_pos c31] at H
         have c31b0 : decide (3 < (l0.length : Int)) = true := decide_eq_true c31
         have c31b1 : decide (3 < l0.length) = true := decide_eq_true (by omega)
         clear c31; by_cases c32 : 4 < (l0.length : Int)
         ·rw [if_pos c32] at H
          have c32b0 : decide (4 < (l0.length : Int)) = true := decide_eq_true c32
          have c32b1 : decide (4 < l0.length) = true := decide_eq_true (by omega)
          clear c32; by_cases c33 : 5 < (l0.length : Int)
          ·rw [if_pos c33] at H
           have c33b0 : decide (5 < (l0.length : Int)) = true := decide_eq_true c33
           have c33b1 : decide (5 < l0.length) = true := decide_eq_true (by omega)
           clear c33; by_cases c34 : 6 < (l0.length : Int)
           ·rw [if_pos c34] at H
            have c34b0 : decide (6 < (l0.length : Int)) = true := decide_eq_true c34
            have c34b1 : decide (6 < l0.length) = true := decide_eq_true (by omega)
            clear c34; by_cases c35 : 7 < (l0.length : Int)
            ·rw [if_pos c35] at H
             have c35b0 : decide (7 < (l0.length : Int)) = true := decide_eq_true c35
             have c35b1 : decide (7 < l0.length) = true := decide_eq_true (by omega)
             clear c35; have H' := Aside0.mk H; clear H; try go_wp2
             have n0_ := Aside0.mk (Kd.R_drew HO_5.out); have n1_ := Aside0.mk (below_drew1 HB.out); clear HO_5; clear HB; have HO_5 := n0_; have HB := n1_; clear n0_ n1_; have p295 : 0 ≤ (0 : Int) := (by omega)
             have q295 : 0 < (l0.length : Int) := of_decide_eq_true (by first | (with_reducible assumption) | assumption)
             obtain ⟨ad295, e295, hx295_0⟩ := Kd.at_int HR0.out 0 p295 q295
             have hw295_0 := hx295_0
             (try rw [show ((0 : Int)).toNat = 0 from rfl] at hw295_0)
             (try rw [show 0 * 1 = 0 from rfl] at hw295_0)
             (try rw [Addr.add_zero'] at hw295_0)
             cases e295
             have qi295 : (0 < l0.length) = True := eq_true (by omega)
             (try rw [show ((0 : Int)).toNat = 0 from rfl] at hx295_0)
             (try rw [Addr.add_zero'] at hx295_0)
             replace hx295_0 := (HB.out.cell (World.block_lt_of_cell? w _ hx295_0)).trans hx295_0
             replace p295 := eq_true p295
             replace q295 := eq_true q295
             have p296 : 0 ≤ (1 : Int) := (by omega)
             have q296 : 1 < (l0.length : Int) := of_decide_eq_true (by first | (with_reducible assumption) | assumption)
             obtain ⟨ad296, e296, hx296_0⟩ := Kd.at_int HR0.out 1 p296 q296
             have hw296_0 := hx296_0
             (try rw [show ((1 : Int)).toNat = 1 from rfl] at hw296_0)
             (try rw [show 1 * 1 = 1 from rfl] at hw296_0)
             (try simp only [Nat.reduceMul, Nat.reduceEqDiff, Go.Addr.add, ↓reduceIte] at hw296_0)
             obtain rfl : ad295 = ad296 := (by injection e296)
             (try simp only [show (1 : Int).toNat = 1 from rfl, Nat.reduceMul, Nat.reduceEqDiff, Go.Addr.add, ↓reduceIte] at hx296_0)
             have qi296 : (1 < l0.length) = True := eq_true (by omega)
             (try rw [show ((1 : Int)).toNat = 1 from rfl] at hx296_0)
             replace hx296_0 := (HB.out.cell (World.block_lt_of_cell? w _ hx296_0)).trans hx296_0
             replace p296 := eq_true p296
             replace q296 := eq_true q296
             have p297 : 0 ≤ (2 : Int) := (by omega)
             have q297 : 2 < (l0.length : Int) := of_decide_eq_true (by first | (with_reducible assumption) | assumption)
             obtain ⟨ad297, e297, hx297_0⟩ := Kd.at_int HR0.out 2 p297 q297
             have hw297_0 := hx297_0
             (try rw [show ((2 : Int)).toNat = 2 from rfl] at hw297_0)
             (try rw [show 2 * 1 = 2 from rfl] at hw297_0)
             (try simp only [Nat.reduceMul, Nat.reduceEqDiff, Go.Addr.add, ↓reduceIte] at hw297_0)
             obtain rfl : ad295 = ad297 := (by injection e297)
             (try simp only [show (2 : Int).toNat = 2 from rfl, Nat.reduceMul, Nat.reduceEqDiff, Go.Addr.add, ↓reduceIte] at hx297_0)
             have qi297 : (2 < l0.length) = True := eq_true (by omega)
             (try rw [show ((2 : Int)).toNat = 2 from rfl] at hx297_0)
             replace hx297_0 := (HB.out.cell (World.block_lt_of_cell? w _ hx297_0)).trans hx297_0
             replace p297 := eq_true p297
             replace q297 := eq_true q297
             have p298 : 0 ≤ (3 : Int) := (by omega)
             have q298 : 3 < (l0.length : Int) := of_decide_eq_true (by first | (with_reducible assumption) | assumption)
             obtain ⟨ad298, e298, hx298_0⟩ := Kd.at_int HR0.out 3 p298 q298
             have hw298_0 := hx298_0
             (try rw [show ((3 : Int)).toNat = 3 from rfl] at hw298_0)
             (try rw [show 3 * 1 = 3 from rfl] at hw298_0)
             (try simp only [Nat.reduceMul, Nat.reduceEqDiff, Go.Addr.add, ↓reduceIte] at hw298_0)
             obtain rfl : ad295 = ad298 := (by injection e298)
             (try simp only [show (3 : Int).toNat = 3 from rfl, Nat.reduceMul, Nat.reduceEqDiff, Go.Addr.add, ↓reduceIte] at hx298_0)
             have qi298 : (3 < l0.length) = True := eq_true (by omega)
             (try rw [show ((3 : Int)).toNat = 3 from rfl] at hx298_0)
             replace hx298_0 := (HB.out.cell (World.block_lt_of_cell? w _ hx298_0)).trans hx298_0
             replace p298 := eq_true p298
             replace q298 := eq_true q298
             refine start_ (n := 16) (S := fun w' => w'.cell? ad295 = some (.int .u32 (rd l0 0)) ∧ w'.cell? ⟨ad295.block, ad295.off + 1, none⟩ = some (.int .u32 (rd l0 1)) ∧ w'.cell? ⟨ad295.block, ad295.off + 2, none⟩ = some (.int .u32 (rd l0 2)) ∧ w'.cell? ⟨ad295.block, ad295.off + 3, none⟩ = some (.int .u32 (rd l0 3))) (ds := []) #[false, false, false, false, false, false, false, false, false, false, false, false, false, false, false, false] (by kernel_rfl) rfl rfl ⟨((HB.out.cell (World.block_lt_of_cell? w _ hw295_0)).trans hw295_0), ((HB.out.cell (World.block_lt_of_cell? w _ hw296_0)).trans hw296_0), ((HB.out.cell (World.block_lt_of_cell? w _ hw297_0)).trans hw297_0), ((HB.out.cell (World.block_lt_of_cell? w _ hw298_0)).trans hw298_0)⟩ (fun hHeld => ?_); refine with_tabW wristbandref02_Block.tab10 wristbandref02_Block.bits10 (fun HT_ HW_ => ?_)
             generalize wr.drew = w36 at HO_5 HB hx295_0 hx296_0 hx297_0 hx298_0 hHeld ⊢
             refine pu_ 0 76 (rA [1,15]) HT_ (by kernel_rfl) rfl rfl (fun _ _ _ => id) (.inl ⟨by rfl, fun w' => by go_simp; with_reducible rfl⟩) (by simp only [Act.put, sA, s0, sS, i64_w, i32_w]; rfl) ?_
             refine pu_ 1 77 (rA [2,14]) HT_ (by kernel_rfl) rfl rfl (fun _ _ _ => id) (.inl ⟨by rfl, fun w' => by go_simp; with_reducible rfl⟩) (by simp only [Act.put, sA, s0, sS, i64_w, i32_w]; rfl) ?_
             refine pu_ 3 79 (rA [2,1,1,12]) HT_ (by kernel_rfl) rfl rfl (fun _ _ _ => id) (.inl ⟨by rfl, fun w' => by go_simp; with_reducible rfl⟩) (by simp only [Act.put, sA, s0, sS, i64_w, i32_w]; rfl) ?_
             refine pu_ 4 80 (rA [2,1,2,11]) HT_ (by kernel_rfl) rfl rfl (fun _ _ _ => id) (.inl ⟨by rfl, fun w' => by go_simp; with_reducible rfl⟩) (by simp only [Act.put, sA, s0, sS, i64_w, i32_w]; rfl) ?_
             refine pu_ 6 82 (rA [2,1,2,1,1,9]) HT_ (by kernel_rfl) rfl rfl (fun _ _ _ => id) (.inl ⟨by rfl, fun w' => by go_simp; with_reducible rfl⟩) (by simp only [Act.put, sA, s0, sS, i64_w, i32_w]; rfl) ?_
             refine pu_ 7 83 (rA [2,1,2,1,2,8]) HT_ (by kernel_rfl) rfl rfl (fun _ _ _ => id) (.inl ⟨by rfl, fun w' => by go_simp; with_reducible rfl⟩) (by simp only [Act.put, sA, s0, sS, i64_w, i32_w]; rfl) ?_
             refine pu_ 9 85 (rA [2,1,2,1,2,1,1,6]) HT_ (by kernel_rfl) rfl rfl (fun _ _ _ => id) (.inl ⟨by rfl, fun w' => by go_simp; with_reducible rfl⟩) (by simp only [Act.put, sA, s0, sS, i64_w, i32_w]; rfl) ?_
             refine pu_ 10 86 (rA [2,1,2,1,2,1,2,5]) HT_ (by kernel_rfl) rfl rfl (fun _ _ _ => id) (.inl ⟨by rfl, fun w' => by go_simp; with_reducible rfl⟩) (by simp only [Act.put, sA, s0, sS, i64_w, i32_w]; rfl) ?_
             refine take_ (i := 2) (N := some 78) (v := ?_) (a' := ?_) #[true, true, true, true, true, false, true, true, false, true, true, false, false, false, false, false] rfl rfl (take_ofW HT_.out HW_.out (by kernel_rfl)) (fun _ _ _ h => h) (Or.inl ⟨by rfl, ?_⟩) hHeld ?_ ?_
             rotate_left
             ·rintro w' ⟨s0, s1, s2, s3⟩
              go_simp
              with_reducible rfl
             rotate_left
             ·simp only [Act.put, sA, s0, sS, i64_w, i32_w]
              rfl
             refine pu_ 12 11 (rA [5,1,2,1,2,1,1,3]) HT_ (by kernel_rfl) rfl rfl (fun _ _ _ => id) (.inl ⟨by rfl, fun w' => by go_simp; with_reducible rfl⟩) (by simp only [Act.put, sA, s0, sS, i64_w, i32_w]; rfl) ?_
             refine take_ (i := 5) (N := some 81) (v := ?_) (a' := ?_) #[true, true, true, true, true, true, true, true, false, true, true, false, true, false, false, false] rfl rfl (take_ofW HT_.out HW_.out (by kernel_rfl)) (fun _ _ _ h => h) (Or.inl ⟨by rfl, ?_⟩) hHeld ?_ ?_
             rotate_left
             ·rintro w' ⟨s0, s1, s2, s3⟩
              go_simp
              with_reducible rfl
             rotate_left
             ·simp only [Act.put, sA, s0, sS, i64_w, i32_w]
              rfl
             refine pu_ 13 12 (rA [8,1,2,1,2,2]) HT_ (by kernel_rfl) rfl rfl (fun _ _ _ => id) (.inl ⟨by rfl, fun w' => by go_simp; with_reducible rfl⟩) (by simp only [Act.put, sA, s0, sS, i64_w, i32_w]; rfl) ?_
             refine take_ (i := 8) (N := some 84) (v := ?_) (a' := ?_) #[true, true, true, true, true, true, true, true, true, true, true, false, true, true, false, false] rfl rfl (take_ofW HT_.out HW_.out (by kernel_rfl)) (fun _ _ _ h => h) (Or.inl ⟨by rfl, ?_⟩) hHeld ?_ ?_
             rotate_left
             ·rintro w' ⟨s0, s1, s2, s3⟩
              go_simp
              with_reducible rfl
             rotate_left
             ·simp only [Act.put, sA, s0, sS, i64_w, i32_w]
              rfl
             refine pu_ 14 13 (rA [11,1,3,1]) HT_ (by kernel_rfl) rfl rfl (fun _ _ _ => id) (.inl ⟨by rfl, fun w' => by go_simp; with_reducible rfl⟩) (by simp only [Act.put, sA, s0, sS, i64_w, i32_w]; rfl) ?_
             refine take_ (i := 11) (N := some 87) (v := ?_) (a' := ?_) #[true, true, true, true, true, true, true, true, true, true, true, true, true, true, true, false] rfl rfl (take_ofW HT_.out HW_.out (by kernel_rfl)) (fun _ _ _ h => h) (Or.inl ⟨by rfl, ?_⟩) hHeld ?_ ?_
             rotate_left
             ·rintro w' ⟨s0, s1, s2, s3⟩
              go_simp
              with_reducible rfl
             rotate_left
             ·simp only [Act.put, sA, s0, sS, i64_w, i32_w]
              rfl
             refine pu_ 15 14 (rA [16]) HT_ (by kernel_rfl) rfl rfl (fun _ _ _ => id) (.inl ⟨by rfl, fun w' => by go_simp; with_reducible rfl⟩) (by simp only [Act.put, sA, s0, sS, i64_w, i32_w]; rfl) ?_
             refine done_ (done_of HT_.out (by kernel_rfl)) ?_
             try go_wp2
             have n0_ := Aside0.mk (Kd.R_drew HO_5.out); have n1_ := Aside0.mk (below_drew1 HB.out); clear HO_5; clear HB; have HO_5 := n0_; have HB := n1_; clear n0_ n1_; have p299 : 0 ≤ (4 : Int) := (by omega)
             have q299 : 4 < (l0.length : Int) := of_decide_eq_true (by first | (with_reducible assumption) | assumption)
             obtain ⟨ad299, e299, hx299_0⟩ := Kd.at_int HR0.out 4 p299 q299
             have hw299_0 := hx299_0
             (try rw [show ((4 : Int)).toNat = 4 from rfl] at hw299_0)
             (try rw [show 4 * 1 = 4 from rfl] at hw299_0)
             (try simp only [Nat.reduceMul, Nat.reduceEqDiff, Go.Addr.add, ↓reduceIte] at hw299_0)
             obtain rfl : ad295 = ad299 := (by injection e299)
             (try simp only [show (4 : Int).toNat = 4 from rfl, Nat.reduceMul, Nat.reduceEqDiff, Go.Addr.add, ↓reduceIte] at hx299_0)
             have qi299 : (4 < l0.length) = True := eq_true (by omega)
             (try rw [show ((4 : Int)).toNat = 4 from rfl] at hx299_0)
             replace hx299_0 := (HB.out.cell (World.block_lt_of_cell? w _ hx299_0)).trans hx299_0
             replace p299 := eq_true p299
             replace q299 := eq_true q299
             have p300 : 0 ≤ (5 : Int) := (by omega)
             have q300 : 5 < (l0.length : Int) := of_decide_eq_true (by first | (with_reducible assumption) | assumption)
             obtain ⟨ad300, e300, hx300_0⟩ := Kd.at_int HR0.out 5 p300 q300
             have hw300_0 := hx300_0
             (try rw [show ((5 : Int)).toNat = 5 from rfl] at hw300_0)
             (try rw [show 5 * 1 = 5 from rfl] at hw300_0)
             (try simp only [Nat.reduceMul, Nat.reduceEqDiff, Go.Addr.add, ↓reduceIte] at hw300_0)
             obtain rfl : ad295 = ad300 := (by injection e300)
             (try simp only [show (5 : Int).toNat = 5 from rfl, Nat.reduceMul, Nat.reduceEqDiff, Go.Addr.add, ↓reduceIte] at hx300_0)
             have qi300 : (5 < l0.length) = True := eq_true (by omega)
             (try rw [show ((5 : Int)).toNat = 5 from rfl] at hx300_0)
             replace hx300_0 := (HB.out.cell (World.block_lt_of_cell? w _ hx300_0)).trans hx300_0
             replace p300 := eq_true p300
             replace q300 := eq_true q300
             have p301 : 0 ≤ (6 : Int) := (by omega)
             have q301 : 6 < (l0.length : Int) := of_decide_eq_true (by first | (with_reducible assumption) | assumption)
             obtain ⟨ad301, e301, hx301_0⟩ := Kd.at_int HR0.out 6 p301 q301
             have hw301_0 := hx301_0
             (try rw [show ((6 : Int)).toNat = 6 from rfl] at hw301_0)
             (try rw [show 6 * 1 = 6 from rfl] at hw301_0)
             (try simp only [Nat.reduceMul, Nat.reduceEqDiff, Go.Addr.add, ↓reduceIte] at hw301_0)
             obtain rfl : ad295 = ad301 := (by injection e301)
             (try simp only [show (6 : Int).toNat = 6 from rfl, Nat.reduceMul, Nat.reduceEqDiff, Go.Addr.add, ↓reduceIte] at hx301_0)
             have qi301 : (6 < l0.length) = True := eq_true (by omega)
             (try rw [show ((6 : Int)).toNat = 6 from rfl] at hx301_0)
             replace hx301_0 := (HB.out.cell (World.block_lt_of_cell? w _ hx301_0)).trans hx301_0
             replace p301 := eq_true p301
             replace q301 := eq_true q301
             have p302 : 0 ≤ (7 : Int) := (by omega)
             have q302 : 7 < (l0.length : Int) := of_decide_eq_true (by first | (with_reducible assumption) | assumption)
             obtain ⟨ad302, e302, hx302_0⟩ := Kd.at_int HR0.out 7 p302 q302
             have hw302_0 := hx302_0
             (try rw [show ((7 : Int)).toNat = 7 from rfl] at hw302_0)
             (try rw [show 7 * 1 = 7 from rfl] at hw302_0)
             (try simp only [Nat.reduceMul, Nat.reduceEqDiff, Go.Addr.add, ↓reduceIte] at hw302_0)
             obtain rfl : ad295 = ad302 := (by injection e302)
             (try simp only [show (7 : Int).toNat = 7 from rfl, Nat.reduceMul, Nat.reduceEqDiff, Go.Addr.add, ↓reduceIte] at hx302_0)
             have qi302 : (7 < l0.length) = True := eq_true (by omega)
             (try rw [show ((7 : Int)).toNat = 7 from rfl] at hx302_0)
             replace hx302_0 := (HB.out.cell (World.block_lt_of_cell? w _ hx302_0)).trans hx302_0
             replace p302 := eq_true p302
             replace q302 := eq_true q302
             refine start_ (n := 16) (S := fun w' => w'.cell? ⟨ad295.block, ad295.off + 4, none⟩ = some (.int .u32 (rd l0 4)) ∧ w'.cell? ⟨ad295.block, ad295.off + 5, none⟩ = some (.int .u32 (rd l0 5)) ∧ w'.cell? ⟨ad295.block, ad295.off + 6, none⟩ = some (.int .u32 (rd l0 6)) ∧ w'.cell? ⟨ad295.block, ad295.off + 7, none⟩ = some (.int .u32 (rd l0 7))) (ds := []) #[false, false, false, false, false, false, false, false, false, false, false, false, false, false, false, false] (by kernel_rfl) rfl rfl ⟨((HB.out.cell (World.block_lt_of_cell? w _ hw299_0)).trans hw299_0), ((HB.out.cell (World.block_lt_of_cell? w _ hw300_0)).trans hw300_0), ((HB.out.cell (World.block_lt_of_cell? w _ hw301_0)).trans hw301_0), ((HB.out.cell (World.block_lt_of_cell? w _ hw302_0)).trans hw302_0)⟩ (fun hHeld => ?_); refine with_tabW wristbandref02_Block.tab11 wristbandref02_Block.bits11 (fun HT_ HW_ => ?_)
             generalize w36.drew = w37 at HO_5 HB hx299_0 hx300_0 hx301_0 hx302_0 hHeld ⊢
             refine pu_ 0 88 (rA [1,15]) HT_ (by kernel_rfl) rfl rfl (fun _ _ _ => id) (.inl ⟨by rfl, fun w' => by go_simp; with_reducible rfl⟩) (by simp only [Act.put, sA, s0, sS, i64_w, i32_w]; rfl) ?_
             refine pu_ 1 89 (rA [2,14]) HT_ (by kernel_rfl) rfl rfl (fun _ _ _ => id) (.inl ⟨by rfl, fun w' => by go_simp; with_reducible rfl⟩) (by simp only [Act.put, sA, s0, sS, i64_w, i32_w]; rfl) ?_
             refine pu_ 3 91 (rA [2,1,1,12]) HT_ (by kernel_rfl) rfl rfl (fun _ _ _ => id) (.inl ⟨by rfl, fun w' => by go_simp; with_reducible rfl⟩) (by simp only [Act.put, sA, s0, sS, i64_w, i32_w]; rfl) ?_
             refine pu_ 4 92 (rA [2,1,2,11]) HT_ (by kernel_rfl) rfl rfl (fun _ _ _ => id) (.inl ⟨by rfl, fun w' => by go_simp; with_reducible rfl⟩) (by simp only [Act.put, sA, s0, sS, i64_w, i32_w]; rfl) ?_
             refine pu_ 6 94 (rA [2,1,2,1,1,9]) HT_ (by kernel_rfl) rfl rfl (fun _ _ _ => id) (.inl ⟨by rfl, fun w' => by go_simp; with_reducible rfl⟩) (by simp only [Act.put, sA, s0, sS, i64_w, i32_w]; rfl) ?_
             refine pu_ 7 95 (rA [2,1,2,1,2,8]) HT_ (by kernel_rfl) rfl rfl (fun _ _ _ => id) (.inl ⟨by rfl, fun w' => by go_simp; with_reducible rfl⟩) (by simp only [Act.put, sA, s0, sS, i64_w, i32_w]; rfl) ?_
             refine pu_ 9 97 (rA [2,1,2,1,2,1,1,6]) HT_ (by kernel_rfl) rfl rfl (fun _ _ _ => id) (.inl ⟨by rfl, fun w' => by go_simp; with_reducible rfl⟩) (by simp only [Act.put, sA, s0, sS, i64_w, i32_w]; rfl) ?_
             refine pu_ 10 98 (rA [2,1,2,1,2,1,2,5]) HT_ (by kernel_rfl) rfl rfl (fun _ _ _ => id) (.inl ⟨by rfl, fun w' => by go_simp; with_reducible rfl⟩) (by simp only [Act.put, sA, s0, sS, i64_w, i32_w]; rfl) ?_
             refine take_ (i := 2) (N := some 90) (v := ?_) (a' := ?_) #[true, true, true, true, true, false, true, true, false, true, true, false, false, false, false, false] rfl rfl (take_ofW HT_.out HW_.out (by kernel_rfl)) (fun _ _ _ h => h) (Or.inl ⟨by rfl, ?_⟩) hHeld ?_ ?_
             rotate_left
             ·rintro w' ⟨s0, s1, s2, s3⟩
              go_simp
              with_reducible rfl
             rotate_left
             ·simp only [Act.put, sA, s0, sS, i64_w, i32_w]
              rfl
             refine pu_ 12 15 (rA [5,1,2,1,2,1,1,3]) HT_ (by kernel_rfl) rfl rfl (fun _ _ _ => id) (.inl ⟨by rfl, fun w' => by go_simp; with_reducible rfl⟩) (by simp only [Act.put, sA, s0, sS, i64_w, i32_w]; rfl) ?_
             refine take_ (i := 5) (N := some 93) (v := ?_) (a' := ?_) #[true, true, true, true, true, true, true, true, false, true, true, false, true, false, false, false] rfl rfl (take_ofW HT_.out HW_.out (by kernel_rfl)) (fun _ _ _ h => h) (Or.inl ⟨by rfl, ?_⟩) hHeld ?_ ?_
             rotate_left
             ·rintro w' ⟨s0, s1, s2, s3⟩
              go_simp
              with_reducible rfl
             rotate_left
             ·simp only [Act.put, sA, s0, sS, i64_w, i32_w]
              rfl
             refine pu_ 13 16 (rA [8,1,2,1,2,2]) HT_ (by kernel_rfl) rfl rfl (fun _ _ _ => id) (.inl ⟨by rfl, fun w' => by go_simp; with_reducible rfl⟩) (by simp only [Act.put, sA, s0, sS, i64_w, i32_w]; rfl) ?_
             refine take_ (i := 8) (N := some 96) (v := ?_) (a' := ?_) #[true, true, true, true, true, true, true, true, true, true, true, false, true, true, false, false] rfl rfl (take_ofW HT_.out HW_.out (by kernel_rfl)) (fun _ _ _ h => h) (Or.inl ⟨by rfl, ?_⟩) hHeld ?_ ?_
             rotate_left
             ·rintro w' ⟨s0, s1, s2, s3⟩
              go_simp
              with_reducible rfl
             rotate_left
             ·simp only [Act.put, sA, s0, sS, i64_w, i32_w]
              rfl
             refine pu_ 14 17 (rA [11,1,3,1]) HT_ (by kernel_rfl) rfl rfl (fun _ _ _ => id) (.inl ⟨by rfl, fun w' => by go_simp; with_reducible rfl⟩) (by simp only [Act.put, sA, s0, sS, i64_w, i32_w]; rfl) ?_
             refine take_ (i := 11) (N := some 99) (v := ?_) (a' := ?_) #[true, true, true, true, true, true, true, true, true, true, true, true, true, true, true, false] rfl rfl (take_ofW HT_.out HW_.out (by kernel_rfl)) (fun _ _ _ h => h) (Or.inl ⟨by rfl, ?_⟩) hHeld ?_ ?_
             rotate_left
             ·rintro w' ⟨s0, s1, s2, s3⟩
              go_simp
              with_reducible rfl
             rotate_left
             ·simp only [Act.put, sA, s0, sS, i64_w, i32_w]
              rfl
             refine pu_ 15 18 (rA [16]) HT_ (by kernel_rfl) rfl rfl (fun _ _ _ => id) (.inl ⟨by rfl, fun w' => by go_simp; with_reducible rfl⟩) (by simp only [Act.put, sA, s0, sS, i64_w, i32_w]; rfl) ?_
             refine done_ (done_of HT_.out (by kernel_rfl)) ?_
             try go_wp2
             go_loopg [11, 12, 13, 14, 15, 16, 17, 18, 19] k1 (fun kq v11 v12 v13 v14 v15 v16 v17 v18 v19 w' => ∃ (x11_2 : Int) (x12_2 : Int) (x13_2 : Int) (x14_2 : Int) (x15_2 : Int) (x16_2 : Int) (x17_2 : Int) (x18_2 : Int) (x19_2 : Int), v11 = .int .u32 x11_2 ∧ v12 = .int .u32 x12_2 ∧ v13 = .int .u32 x13_2 ∧ v14 = .int .u32 x14_2 ∧ v15 = .int .u32 x15_2 ∧ v16 = .int .u32 x16_2 ∧ v17 = .int .u32 x17_2 ∧ v18 = .int .u32 x18_2 ∧ v19 = .int .i64 x19_2 ∧ Aside0 (wristbandref02_Block.l1 kq l0 x5_1 x11_2 x12_2 x13_2 x14_2 x15_2 x16_2 x17_2 x18_2 x19_2 = some r) ∧ Aside0 (kq ≤ k1) ∧ Aside0 (Kd.R (Kd.int .u32) 22 w' w.heap.size (fun _ => True) u5 x5_1) ∧ Aside0 (Below w.heap.size w w'))
             case atStart => exact ⟨(rd l0 0), (rd l0 1), (rd l0 2), (rd l0 3), (rd l0 4), (rd l0 5), (rd l0 6), (rd l0 7), (0), (by first | rfl | (simp; done) | (simp [*]; done)), (by first | rfl | (simp; done) | (simp [*]; done)), (by first | rfl | (simp; done) | (simp [*]; done)), (by first | rfl | (simp; done) | (simp [*]; done)), (by first | rfl | (simp; done) | (simp [*]; done)), (by first | rfl | (simp; done) | (simp [*]; done)), (by first | rfl | (simp; done) | (simp [*]; done)), (by first | rfl | (simp; done) | (simp [*]; done)), (by first | rfl | (simp; done) | (simp [*]; done)), H', ⟨Nat.le_refl _⟩, ⟨by (with_reducible repeat (first | apply rL | apply rN | apply rW)); exact HO_5.out⟩, ⟨by repeat (first | (with_reducible first | exact HB.out | apply bA | apply bN | apply bD) | exact HB.out)⟩⟩
             case round =>
              clear H'; try clear c1
              try clear c2
              try clear p2
              try clear q2
              try clear hx2
              try clear qi2
              try clear c3
              try clear p3
              try clear q3
              try clear hx3
              try clear qi3
              try clear c5
              try clear c5b0
              try clear p6
              try clear c7
              try clear c8
              try clear c10
              try clear c11
              try clear c19
              try clear c20
              try clear c22
              try clear c23
              try clear c24
              try clear c28
              try clear c28b0
              try clear c28b1
              try clear c29
              try clear c29b0
              try clear c29b1
              try clear p29
              try clear q29
              try clear hx29
              try clear qi29
              try clear c30
              try clear c30b0
              try clear c30b1
              try clear p30
              try clear q30
              try clear hx30
              try clear qi30
              try clear c31
              try clear c31b0
              try clear c31b1
              try clear c32
              try clear c32b0
              try clear c32b1
              try clear c33
              try clear c33b0
              try clear c33b1
              try clear c34
              try clear c34b0
              try clear c34b1
              try clear c35
              try clear c35b0
              try clear c35b1
              try clear hx295_0
              try clear hx296_0
              try clear hx297_0
              try clear hx298_0
              try clear hx299_0
              try clear hx300_0
              try clear hx301_0
              try clear hx302_0
              try clear p295
              try clear p296
              try clear p297
              try clear p298
              try clear p299
              try clear p300
              try clear p301
              try clear p302
              try clear q295
              try clear q296
              try clear q297
              try clear q298
              try clear q299
              try clear q300
              try clear q301
              try clear q302
              obtain ⟨x11_2, x12_2, x13_2, x14_2, x15_2, x16_2, x17_2, x18_2, x19_2, rfl, rfl, rfl, rfl, rfl, rfl, rfl, rfl, rfl, HA, HK2, HO_5, HB⟩ := hrel
              cases gk with
              | zero => exact absurd HA.out (by simp [wristbandref02_Block.l1])
              | succ k2 =>
               have H := HA.out
               clear HA; simp only [wristbandref02_Block.l1] at H
               by_cases c38 : x19_2 < 64
               ·rw [if_pos c38] at H
                have c38b0 : decide (x19_2 < 64) = true := decide_eq_true c38
                clear c38; replace H := Option.bind_eq_some_iff.mp H
                obtain ⟨t314, A390, H⟩ := H
                replace H : ((wristbandref01_Rot.f k2 x15_2 11).bind fun t315 => ((wristbandref01_Rot.f k2 x15_2 25).bind fun t316 => ((wristbandref02_constant.f x19_2).bind fun t317 => (if 0 ≤ x19_2 then (if x19_2 < (x5_1.length : Int) then ((wristbandref01_Rot.f k2 x11_2 2).bind fun t319 => ((wristbandref01_Rot.f k2 x11_2 13).bind fun t320 => ((wristbandref01_Rot.f k2 x11_2 22).bind fun t321 => (wristbandref02_Block.l1 k2 l0 x5_1 ((((((((((x18_2 + (Go.bits .xor .u32 (Go.bits .xor .u32 t314 t315) t316)) % 4294967296) + (Go.bits .or .u32 (Go.bits .and .u32 x15_2 x16_2) (Go.bits .and .u32 ((4294967295 - x15_2) % 4294967296) x17_2))) % 4294967296) + t317) % 4294967296) + (rd x5_1 x19_2)) % 4294967296) + (((Go.bits .xor .u32 (Go.bits .xor .u32 t319 t320) t321) + (Go.bits .or .u32 (Go.bits .or .u32 (Go.bits .and .u32 x11_2 x12_2) (Go.bits .and .u32 x11_2 x13_2)) (Go.bits .and .u32 x12_2 x13_2))) % 4294967296)) % 4294967296) x11_2 x12_2 x13_2 ((x14_2 + ((((((((x18_2 + (Go.bits .xor .u32 (Go.bits .xor .u32 t314 t315) t316)) % 4294967296) + (Go.bits .or .u32 (Go.bits .and .u32 x15_2 x16_2) (Go.bits .and .u32 ((4294967295 - x15_2) % 4294967296) x17_2))) % 4294967296) + t317) % 4294967296) + (rd x5_1 x19_2)) % 4294967296)) % 4294967296) x15_2 x16_2 x17_2 (wrap64 (x19_2 + 1)))))) else (none)) else (none))))) = some r := H
                have A39 := Aside0.mk A390; clear A390; replace H := Option.bind_eq_some_iff.mp H
                obtain ⟨t315, A400, H⟩ := H
                replace H : ((wristbandref01_Rot.f k2 x15_2 25).bind fun t316 => ((wristbandref02_constant.f x19_2).bind fun t317 => (if 0 ≤ x19_2 then (if x19_2 < (x5_1.length : Int) then ((wristbandref01_Rot.f k2 x11_2 2).bind fun t319 => ((wristbandref01_Rot.f k2 x11_2 13).bind fun t320 => ((wristbandref01_Rot.f k2 x11_2 22).bind fun t321 => (wristbandref02_Block.l1 k2 l0 x5_1 ((((((((((x18_2 + (Go.bits .xor .u32 (Go.bits .xor .u32 t314 t315) t316)) % 4294967296) + (Go.bits .or .u32 (Go.bits .and .u32 x15_2 x16_2) (Go.bits .and .u32 ((4294967295 - x15_2) % 4294967296) x17_2))) % 4294967296) + t317) % 4294967296) + (rd x5_1 x19_2)) % 4294967296) + (((Go.bits .xor .u32 (Go.bits .xor .u32 t319 t320) t321) + (Go.bits .or .u32 (Go.bits .or .u32 (Go.bits .and .u32 x11_2 x12_2) (Go.bits .and .u32 x11_2 x13_2)) (Go.bits .and .u32 x12_2 x13_2))) % 4294967296)) % 4294967296) x11_2 x12_2 x13_2 ((x14_2 + ((((((((x18_2 + (Go.bits .xor .u32 (Go.bits .xor .u32 t314 t315) t316)) % 4294967296) + (Go.bits .or .u32 (Go.bits .and .u32 x15_2 x16_2) (Go.bits .and .u32 ((4294967295 - x15_2) % 4294967296) x17_2))) % 4294967296) + t317) % 4294967296) + (rd x5_1 x19_2)) % 4294967296)) % 4294967296) x15_2 x16_2 x17_2 (wrap64 (x19_2 + 1)))))) else (none)) else (none)))) = some r := H
                have A40 := Aside0.mk A400; clear A400; replace H := Option.bind_eq_some_iff.mp H
                obtain ⟨t316, A410, H⟩ := H
                replace H : ((wristbandref02_constant.f x19_2).bind fun t317 => (if 0 ≤ x19_2 then (if x19_2 < (x5_1.length : Int) then ((wristbandref01_Rot.f k2 x11_2 2).bind fun t319 => ((wristbandref01_Rot.f k2 x11_2 13).bind fun t320 => ((wristbandref01_Rot.f k2 x11_2 22).bind fun t321 => (wristbandref02_Block.l1 k2 l0 x5_1 ((((((((((x18_2 + (Go.bits .xor .u32 (Go.bits .xor .u32 t314 t315) t316)) % 4294967296) + (Go.bits .or .u32 (Go.bits .and .u32 x15_2 x16_2) (Go.bits .and .u32 ((4294967295 - x15_2) % 4294967296) x17_2))) % 4294967296) + t317) % 4294967296) + (rd x5_1 x19_2)) % 4294967296) + (((Go.bits .xor .u32 (Go.bits .xor .u32 t319 t320) t321) + (Go.bits .or .u32 (Go.bits .or .u32 (Go.bits .and .u32 x11_2 x12_2) (Go.bits .and .u32 x11_2 x13_2)) (Go.bits .and .u32 x12_2 x13_2))) % 4294967296)) % 4294967296) x11_2 x12_2 x13_2 ((x14_2 + ((((((((x18_2 + (Go.bits .xor .u32 (Go.bits .xor .u32 t314 t315) t316)) % 4294967296) + (Go.bits .or .u32 (Go.bits .and .u32 x15_2 x16_2) (Go.bits .and .u32 ((4294967295 - x15_2) % 4294967296) x17_2))) % 4294967296) + t317) % 4294967296) + (rd x5_1 x19_2)) % 4294967296)) % 4294967296) x15_2 x16_2 x17_2 (wrap64 (x19_2 + 1)))))) else (none)) else (none))) = some r := H
                have A41 := Aside0.mk A410; clear A410; replace H := Option.bind_eq_some_iff.mp H
                obtain ⟨t317, A420, H⟩ := H
                replace H : (if 0 ≤ x19_2 then (if x19_2 < (x5_1.length : Int) then ((wristbandref01_Rot.f k2 x11_2 2).bind fun t319 => ((wristbandref01_Rot.f k2 x11_2 13).bind fun t320 => ((wristbandref01_Rot.f k2 x11_2 22).bind fun t321 => (wristbandref02_Block.l1 k2 l0 x5_1 ((((((((((x18_2 + (Go.bits .xor .u32 (Go.bits .xor .u32 t314 t315) t316)) % 4294967296) + (Go.bits .or .u32 (Go.bits .and .u32 x15_2 x16_2) (Go.bits .and .u32 ((4294967295 - x15_2) % 4294967296) x17_2))) % 4294967296) + t317) % 4294967296) + (rd x5_1 x19_2)) % 4294967296) + (((Go.bits .xor .u32 (Go.bits .xor .u32 t319 t320) t321) + (Go.bits .or .u32 (Go.bits .or .u32 (Go.bits .and .u32 x11_2 x12_2) (Go.bits .and .u32 x11_2 x13_2)) (Go.bits .and .u32 x12_2 x13_2))) % 4294967296)) % 4294967296) x11_2 x12_2 x13_2 ((x14_2 + ((((((((x18_2 + (Go.bits .xor .u32 (Go.bits .xor .u32 t314 t315) t316)) % 4294967296) + (Go.bits .or .u32 (Go.bits .and .u32 x15_2 x16_2) (Go.bits .and .u32 ((4294967295 - x15_2) % 4294967296) x17_2))) % 4294967296) + t317) % 4294967296) + (rd x5_1 x19_2)) % 4294967296)) % 4294967296) x15_2 x16_2 x17_2 (wrap64 (x19_2 + 1)))))) else (none)) else (none)) = some r := H
                have A42 := Aside0.mk A420; clear A420; by_cases c43 : 0 ≤ x19_2
                ·rw [if_pos c43] at H
                 have c43b0 : decide (0 ≤ x19_2) = true := decide_eq_true c43
                 clear c43; by_cases c44 : x19_2 < (x5_1.length : Int)
                 ·rw [if_pos c44] at H
                  have c44b0 : decide (x19_2 < (x5_1.length : Int)) = true := decide_eq_true c44
                  clear c44; replace H := Option.bind_eq_some_iff.mp H
                  obtain ⟨t319, A450, H⟩ := H
                  replace H : ((wristbandref01_Rot.f k2 x11_2 13).bind fun t320 => ((wristbandref01_Rot.f k2 x11_2 22).bind fun t321 => (wristbandref02_Block.l1 k2 l0 x5_1 ((((((((((x18_2 + (Go.bits .xor .u32 (Go.bits .xor .u32 t314 t315) t316)) % 4294967296) + (Go.bits .or .u32 (Go.bits .and .u32 x15_2 x16_2) (Go.bits .and .u32 ((4294967295 - x15_2) % 4294967296) x17_2))) % 4294967296) + t317) % 4294967296) + (rd x5_1 x19_2)) % 4294967296) + (((Go.bits .xor .u32 (Go.bits .xor .u32 t319 t320) t321) + (Go.bits .or .u32 (Go.bits .or .u32 (Go.bits .and .u32 x11_2 x12_2) (Go.bits .and .u32 x11_2 x13_2)) (Go.bits .and .u32 x12_2 x13_2))) % 4294967296)) % 4294967296) x11_2 x12_2 x13_2 ((x14_2 + ((((((((x18_2 + (Go.bits .xor .u32 (Go.bits .xor .u32 t314 t315) t316)) % 4294967296) + (Go.bits .or .u32 (Go.bits .and .u32 x15_2 x16_2) (Go.bits .and .u32 ((4294967295 - x15_2) % 4294967296) x17_2))) % 4294967296) + t317) % 4294967296) + (rd x5_1 x19_2)) % 4294967296)) % 4294967296) x15_2 x16_2 x17_2 (wrap64 (x19_2 + 1))))) = some r := H
                  have A45 := Aside0.mk A450; clear A450; replace H := Option.bind_eq_some_iff.mp H
                  obtain ⟨t320, A460, H⟩ := H
                  replace H : ((wristbandref01_Rot.f k2 x11_2 22).bind fun t321 => (wristbandref02_Block.l1 k2 l0 x5_1 ((((((((((x18_2 + (Go.bits .xor .u32 (Go.bits .xor .u32 t314 t315) t316)) % 4294967296) + (Go.bits .or .u32 (Go.bits .and .u32 x15_2 x16_2) (Go.bits .and .u32 ((4294967295 - x15_2) % 4294967296) x17_2))) % 4294967296) + t317) % 4294967296) + (rd x5_1 x19_2)) % 4294967296) + (((Go.bits .xor .u32 (Go.bits .xor .u32 t319 t320) t321) + (Go.bits .or .u32 (Go.bits .or .u32 (Go.bits .and .u32 x11_2 x12_2) (Go.bits .and .u32 x11_2 x13_2)) (Go.bits .and .u32 x12_2 x13_2))) % 4294967296)) % 4294967296) x11_2 x12_2 x13_2 ((x14_2 + ((((((((x18_2 + (Go.bits .xor .u32 (Go.bits .xor .u32 t314 t315) t316)) % 4294967296) + (Go.bits .or .u32 (Go.bits .and .u32 x15_2 x16_2) (Go.bits .and .u32 ((4294967295 - x15_2) % 4294967296) x17_2))) % 4294967296) + t317) % 4294967296) + (rd x5_1 x19_2)) % 4294967296)) % 4294967296) x15_2 x16_2 x17_2 (wrap64 (x19_2 + 1)))) = some r := H
                  have A46 := Aside0.mk A460; clear A460; replace H := Option.bind_eq_some_iff.mp H
                  obtain ⟨t321, A470, H⟩ := H
                  replace H : (wristbandref02_Block.l1 k2 l0 x5_1 ((((((((((x18_2 + (Go.bits .xor .u32 (Go.bits .xor .u32 t314 t315) t316)) % 4294967296) + (Go.bits .or .u32 (Go.bits .and .u32 x15_2 x16_2) (Go.bits .and .u32 ((4294967295 - x15_2) % 4294967296) x17_2))) % 4294967296) + t317) % 4294967296) + (rd x5_1 x19_2)) % 4294967296) + (((Go.bits .xor .u32 (Go.bits .xor .u32 t319 t320) t321) + (Go.bits .or .u32 (Go.bits .or .u32 (Go.bits .and .u32 x11_2 x12_2) (Go.bits .and .u32 x11_2 x13_2)) (Go.bits .and .u32 x12_2 x13_2))) % 4294967296)) % 4294967296) x11_2 x12_2 x13_2 ((x14_2 + ((((((((x18_2 + (Go.bits .xor .u32 (Go.bits .xor .u32 t314 t315) t316)) % 4294967296) + (Go.bits .or .u32 (Go.bits .and .u32 x15_2 x16_2) (Go.bits .and .u32 ((4294967295 - x15_2) % 4294967296) x17_2))) % 4294967296) + t317) % 4294967296) + (rd x5_1 x19_2)) % 4294967296)) % 4294967296) x15_2 x16_2 x17_2 (wrap64 (x19_2 + 1))) = some r := H
                  have A47 := Aside0.mk A470; clear A470; have H' := Aside0.mk H; clear H; try go_wp2_with (first | ((with_reducible refine gate_callee (f := 49) rfl ?_); refine goesL_ (some 105) rfl rfl Tryd.func49 (by kernel_rfl) rfl #[.int .u32 x15_2, .int .i64 6] rfl (by (try simp only [mT, mC, mN]); first | done | rfl | (simp only [List.length_drop, List.length_take]; rfl)) ?_; (with_reducible refine (wristbandref01_Rot.calls k2 x15_2 6 t314 _ A39.out).mono ?_); rintro e w' ⟨rfl, ⟨nd, rfl⟩⟩; refine ⟨_, rfl, ?_⟩) | ((with_reducible refine gate_callee (f := 49) rfl ?_); refine goesL_ (some 107) rfl rfl Tryd.func49 (by kernel_rfl) rfl #[.int .u32 x15_2, .int .i64 11] rfl (by (try simp only [mT, mC, mN]); first | done | rfl | (simp only [List.length_drop, List.length_take]; rfl)) ?_; (with_reducible refine (wristbandref01_Rot.calls k2 x15_2 11 t315 _ A40.out).mono ?_); rintro e w' ⟨rfl, ⟨nd, rfl⟩⟩; refine ⟨_, rfl, ?_⟩) | ((with_reducible refine gate_callee (f := 49) rfl ?_); refine goesL_ (some 110) rfl rfl Tryd.func49 (by kernel_rfl) rfl #[.int .u32 x15_2, .int .i64 25] rfl (by (try simp only [mT, mC, mN]); first | done | rfl | (simp only [List.length_drop, List.length_take]; rfl)) ?_; (with_reducible refine (wristbandref01_Rot.calls k2 x15_2 25 t316 _ A41.out).mono ?_); rintro e w' ⟨rfl, ⟨nd, rfl⟩⟩; refine ⟨_, rfl, ?_⟩))
                  (try (rw [drewN_self wr]; generalize hq_ : World.drewN wr _ = wr; have n0_ : Aside0 (Kd.R (Kd.int .u32) 22 wr w.heap.size (fun _ => True) u5 x5_1) := ⟨by rw [← hq_]; exact (by (with_reducible repeat (first | apply rL | apply rN | apply rW)); exact HO_5.out)⟩; have n1_ : Aside0 (Below w.heap.size w wr) := ⟨by rw [← hq_]; exact (by repeat (first | (with_reducible first | exact HB.out | apply bA | apply bN | apply bD) | exact HB.out))⟩; clear HO_5 HB hq_; have HO_5 := n0_; have HB := n1_; clear n0_ n1_))
                  have n0_ := Aside0.mk (Kd.R_drew HO_5.out); have n1_ := Aside0.mk (below_drew1 HB.out); clear HO_5; clear HB; have HO_5 := n0_; have HB := n1_; clear n0_ n1_; obtain ⟨Ao49, co49, eo49⟩ := Kd.R_slice HO_5.out
                  (first | subst eo49 | (injection eo49 with f1_ f2_ f3_; have f4_ := f1_.symm; have f5_ := f3_.symm; clear f1_ f2_ f3_; subst f4_; subst f5_)); have p318 : 0 ≤ (x19_2 : Int) := of_decide_eq_true (by first | (with_reducible assumption) | assumption)
                  have q318 : x19_2 < (x5_1.length : Int) := of_decide_eq_true (by first | (with_reducible assumption) | assumption)
                  obtain ⟨ad318, e318, hx318_0⟩ := Kd.at_int (Kd.R_reads' HO_5.out).2.2 x19_2 p318 q318
                  cases e318
                  replace p318 := eq_true p318
                  replace q318 := eq_true q318
                  refine start_ (n := 14) (S := fun w' => w'.cell? (ad318.add (x19_2).toNat) = some (.int .u32 (rd x5_1 x19_2))) (ds := []) #[false, false, false, false, false, false, false, false, false, false, false, false, false, false] (by kernel_rfl) rfl rfl (hx318_0) (fun hHeld => ?_); refine with_tabW wristbandref02_Block.tab17 wristbandref02_Block.bits17 (fun HT_ HW_ => ?_)
                  generalize wr.drew = w48 at HO_5 HB hx318_0 hHeld ⊢
                  refine pu_ 0 120 (rA [1,13]) HT_ (by kernel_rfl) rfl rfl (fun _ _ _ => id) (.inl ⟨by rfl, fun w' => by go_simp; with_reducible rfl⟩) (by simp only [Act.put, sA, s0, sS, i64_w, i32_w]; rfl) ?_
                  refine pu_ 1 121 (rA [2,12]) HT_ (by kernel_rfl) rfl rfl (fun _ _ _ => id) (.inl ⟨by rfl, fun w' => by go_simp; with_reducible rfl⟩) (by simp only [Act.put, sA, s0, sS, i64_w, i32_w]; rfl) ?_
                  refine pu_ 2 122 (rA [3,11]) HT_ (by kernel_rfl) rfl rfl (fun _ _ _ => id) (.inl ⟨by rfl, fun w' => by go_simp; with_reducible rfl⟩) (by simp only [Act.put, sA, s0, sS, i64_w, i32_w]; rfl) ?_
                  refine pu_ 3 123 (rA [4,10]) HT_ (by kernel_rfl) rfl rfl (fun _ _ _ => id) (.inl ⟨by rfl, fun w' => by go_simp; with_reducible rfl⟩) (by simp only [Act.put, sA, s0, sS, i64_w, i32_w]; rfl) ?_
                  refine pu_ 4 124 (rA [5,9]) HT_ (by kernel_rfl) rfl rfl (fun _ _ _ => id) (.inl ⟨by rfl, fun w' => by go_simp; with_reducible rfl⟩) (by simp only [Act.put, sA, s0, sS, i64_w, i32_w]; rfl) ?_
                  refine pu_ 5 125 (rA [6,8]) HT_ (by kernel_rfl) rfl rfl (fun _ _ _ => id) (.inl ⟨by rfl, fun w' => by go_simp; with_reducible rfl⟩) (by simp only [Act.put, sA, s0, sS, i64_w, i32_w]; rfl) ?_
                  refine pu_ 8 128 (rA [6,2,1,5]) HT_ (by kernel_rfl) rfl rfl (fun _ _ _ => id) (.inl ⟨by rfl, fun w' => by go_simp; with_reducible rfl⟩) (by simp only [Act.put, sA, s0, sS, i64_w, i32_w]; rfl) ?_
                  refine pu_ 9 129 (rA [6,2,2,4]) HT_ (by kernel_rfl) rfl rfl (fun _ _ _ => id) (.inl ⟨by rfl, fun w' => by go_simp; with_reducible rfl⟩) (by simp only [Act.put, sA, s0, sS, i64_w, i32_w]; rfl) ?_
                  refine pu_ 10 130 (rA [6,2,3,3]) HT_ (by kernel_rfl) rfl rfl (fun _ _ _ => id) (.inl ⟨by rfl, fun w' => by go_simp; with_reducible rfl⟩) (by simp only [Act.put, sA, s0, sS, i64_w, i32_w]; rfl) ?_
                  refine take_ (i := 11) (N := some 131) (v := ?_) (a' := ?_) #[true, true, true, true, true, true, false, false, true, true, true, true, false, false] rfl rfl (take_ofW HT_.out HW_.out (by kernel_rfl)) (fun _ _ _ h => h) (Or.inl ⟨by rfl, ?_⟩) hHeld ?_ ?_
                  rotate_left
                  ·intro w' s0
                   go_simp
                   with_reducible rfl
                  rotate_left
                  ·simp only [Act.put, sA, s0, sS, i64_w, i32_w]
                   rfl
                  refine one_ (i := 6) (N := some 126) (rA [7,1,4,2]) rfl rfl (one_of HT_.out (by kernel_rfl)) (by decide) (fun K hK => ?_)
                  refine goes_ Tryd.func51 (by kernel_rfl) rfl #[.int .i64 x19_2] (by first | rfl | (simp [Region.wanted, yielded, *]; done)) rfl rfl (by (try simp only [mT, mC, mN]); first | done | rfl | (simp only [Act.eval, gD, oG, e125]; done) | (simp only [List.length_drop, List.length_take]; rfl)) ?_
                  with_reducible refine (wristbandref02_constant.calls x19_2 t317 _ A42.out).mono ?_
                  rintro e w50 ⟨rfl, hb⟩
                  have HS0_ := (hb.cell (World.block_lt_of_cell? _ _ (hHeld))).trans (hHeld)
                  refine ⟨_, rfl, ?_⟩; have n0_ := Aside0.mk (Kd.R_below (by (with_reducible repeat (first | apply rL | apply rN | apply rW)); exact HO_5.out) hb); have n1_ := Aside0.mk (below_step (by repeat (first | (with_reducible first | exact HB.out | apply bA | apply bN | apply bD) | exact HB.out)) hb); clear HO_5; clear HB; have HO_5 := n0_; have HB := n1_; clear n0_ n1_; (try clear hb); (try clear hb2); (try clear hk); (try clear hi); refine hK.out _ _ (HS0_) (fun hHeld => ?_)
                  clear hK K; refine norm_ (a' := ?_) ?_ ?_
                  rotate_left
                  ·show Act.put _ (some 126) _ = _
                   simp only [Act.put, sA, s0, sS, i64_w, i32_w]
                   rfl
                  refine pu_ 7 127 (rA [12,2]) HT_ (by kernel_rfl) rfl rfl (fun _ _ _ => id) (.inl ⟨by rfl, fun w' => by go_simp; with_reducible rfl⟩) (by simp only [Act.put, sA, s0, sS, i64_w, i32_w]; rfl) ?_
                  refine pu_ 12 132 (rA [13,1]) HT_ (by kernel_rfl) rfl rfl (fun _ _ _ => id) (.inl ⟨by rfl, fun w' => by go_simp; with_reducible rfl⟩) (by simp only [Act.put, sA, s0, sS, i64_w, i32_w]; rfl) ?_
                  refine pu_ 13 22 (rA [14]) HT_ (by kernel_rfl) rfl rfl (fun _ _ _ => id) (.inl ⟨by rfl, fun w' => by go_simp; with_reducible rfl⟩) (by simp only [Act.put, sA, s0, sS, i64_w, i32_w]; rfl) ?_
                  refine done_ (done_of HT_.out (by kernel_rfl)) ?_
                  try go_wp2_with (first | ((with_reducible refine gate_callee (f := 49) rfl ?_); refine goesL_ (some 134) rfl rfl Tryd.func49 (by kernel_rfl) rfl #[.int .u32 x11_2, .int .i64 2] rfl (by (try simp only [mT, mC, mN]); first | done | rfl | (simp only [List.length_drop, List.length_take]; rfl)) ?_; (with_reducible refine (wristbandref01_Rot.calls k2 x11_2 2 t319 _ A45.out).mono ?_); rintro e w' ⟨rfl, ⟨nd, rfl⟩⟩; refine ⟨_, rfl, ?_⟩) | ((with_reducible refine gate_callee (f := 49) rfl ?_); refine goesL_ (some 136) rfl rfl Tryd.func49 (by kernel_rfl) rfl #[.int .u32 x11_2, .int .i64 13] rfl (by (try simp only [mT, mC, mN]); first | done | rfl | (simp only [List.length_drop, List.length_take]; rfl)) ?_; (with_reducible refine (wristbandref01_Rot.calls k2 x11_2 13 t320 _ A46.out).mono ?_); rintro e w' ⟨rfl, ⟨nd, rfl⟩⟩; refine ⟨_, rfl, ?_⟩) | ((with_reducible refine gate_callee (f := 49) rfl ?_); refine goesL_ (some 139) rfl rfl Tryd.func49 (by kernel_rfl) rfl #[.int .u32 x11_2, .int .i64 22] rfl (by (try simp only [mT, mC, mN]); first | done | rfl | (simp only [List.length_drop, List.length_take]; rfl)) ?_; (with_reducible refine (wristbandref01_Rot.calls k2 x11_2 22 t321 _ A47.out).mono ?_); rintro e w' ⟨rfl, ⟨nd, rfl⟩⟩; refine ⟨_, rfl, ?_⟩))
                  go_roundg k2
                  case measure => have := HK1.out; have := HK2.out; omega
                  case rel => exact ⟨((((((((((x18_2 + (Go.bits .xor .u32 (Go.bits .xor .u32 t314 t315) t316)) % 4294967296) + (Go.bits .or .u32 (Go.bits .and .u32 x15_2 x16_2) (Go.bits .and .u32 ((4294967295 - x15_2) % 4294967296) x17_2))) % 4294967296) + t317) % 4294967296) + (rd x5_1 x19_2)) % 4294967296) + (((Go.bits .xor .u32 (Go.bits .xor .u32 t319 t320) t321) + (Go.bits .or .u32 (Go.bits .or .u32 (Go.bits .and .u32 x11_2 x12_2) (Go.bits .and .u32 x11_2 x13_2)) (Go.bits .and .u32 x12_2 x13_2))) % 4294967296)) % 4294967296), (x11_2), (x12_2), (x13_2), ((x14_2 + ((((((((x18_2 + (Go.bits .xor .u32 (Go.bits .xor .u32 t314 t315) t316)) % 4294967296) + (Go.bits .or .u32 (Go.bits .and .u32 x15_2 x16_2) (Go.bits .and .u32 ((4294967295 - x15_2) % 4294967296) x17_2))) % 4294967296) + t317) % 4294967296) + (rd x5_1 x19_2)) % 4294967296)) % 4294967296), (x15_2), (x16_2), (x17_2), (wrap64 (x19_2 + 1)), (by first | rfl | (simp; done) | (simp [*]; done)), (by first | rfl | (simp; done) | (simp [*]; done)), (by first | rfl | (simp; done) | (simp [*]; done)), (by first | rfl | (simp; done) | (simp [*]; done)), (by first | rfl | (simp; done) | (simp [*]; done)), (by first | rfl | (simp; done) | (simp [*]; done)), (by first | rfl | (simp; done) | (simp [*]; done)), (by first | rfl | (simp; done) | (simp [*]; done)), (by first | rfl | (simp; done) | (simp [*]; done)), H', ⟨by have := HK1.out; have := HK2.out; omega⟩, ⟨by (with_reducible repeat (first | apply rL | apply rN | apply rW)); exact HO_5.out⟩, ⟨by repeat (first | (with_reducible first | exact HB.out | apply bA | apply bN | apply bD) | exact HB.out)⟩⟩
                 ·rw [if_neg c44] at H
                  exact absurd H (by simp)
                ·rw [if_neg c43] at H
                 exact absurd H (by simp)
               ·rw [if_neg c38] at H
                have c38b0 : decide (x19_2 < 64) = false := decide_eq_false c38
                clear c38; by_cases c51 : 0 < (l0.length : Int)
                ·rw [if_pos c51] at H
                 have c51b0 : decide (0 < (l0.length : Int)) = true := decide_eq_true c51
                 have c51b1 : decide (0 < l0.length) = true := decide_eq_true (by omega)
                 clear c51; by_cases c52 : 1 < (l0.length : Int)
                 ·rw [if_pos c52] at H
                  have c52b0 : decide (1 < (l0.length : Int)) = true := decide_eq_true c52
                  have c52b1 : decide (1 < l0.length) = true := decide_eq_true (by omega)
                  clear c52; by_cases c53 : 2 < (l0.length : Int)
                  ·rw [if_pos c53] at H
                   have c53b0 : decide (2 < (l0.length : Int)) = true := decide_eq_true c53
                   have c53b1 : decide (2 < l0.length) = true := decide_eq_true (by omega)
                   clear c53; by_cases c54 : 3 < (l0.length : Int)
                   ·rw [if_pos c54] at H
                    have c54b0 : decide (3 < (l0.length : Int)) = true := decide_eq_true c54
                    have c54b1 : decide (3 < l0.length) = true := decide_eq_true (by omega)
                    clear c54; by_cases c55 : 4 < (l0.length : Int)
                    ·rw [if_pos c55] at H
                     have c55b0 : decide (4 < (l0.length : Int)) = true := decide_eq_true c55
                     have c55b1 : decide (4 < l0.length) = true := decide_eq_true (by omega)
                     clear c55; by_cases c56 : 5 < (l0.length : Int)
                     ·rw [if_pos c56] at H
                      have c56b0 : decide (5 < (l0.length : Int)) = true := decide_eq_true c56
                      have c56b1 : decide (5 < l0.length) = true := decide_eq_true (by omega)
                      clear c56; by_cases c57 : 6 < (l0.length : Int)
                      ·rw [if_pos c57] at H
                       have c57b0 : decide (6 < (l0.length : Int)) = true := decide_eq_true c57
                       have c57b1 : decide (6 < l0.length) = true := decide_eq_true (by omega)
                       clear c57; by_cases c58 : 7 < (l0.length : Int)
                       ·rw [if_pos c58] at H
                        have c58b0 : decide (7 < (l0.length : Int)) = true := decide_eq_true c58
                        have c58b1 : decide (7 < l0.length) = true := decide_eq_true (by omega)
                        clear c58; obtain ⟨y311, hy311⟩ : ∃ y_ : List Int, y_ = (([((rd l0 0) + x11_2) % 4294967296, ((rd l0 1) + x12_2) % 4294967296, ((rd l0 2) + x13_2) % 4294967296, ((rd l0 3) + x14_2) % 4294967296, ((rd l0 4) + x15_2) % 4294967296, ((rd l0 5) + x16_2) % 4294967296, ((rd l0 6) + x17_2) % 4294967296, ((rd l0 7) + x18_2) % 4294967296] : List Int)) := ⟨_, rfl⟩
                        replace H : (some y311) = some r := by first | (rw [hy311]; with_reducible exact H) | (have H2_ := (Option.bind_some _ _).symm.trans H; rw [hy311]; with_reducible exact H2_) | (have H2_ := (Option.bind_some _ _).symm.trans H; with_reducible exact H2_) | with_reducible exact H | (rw [hy311]; exact H) | exact H
                        have Ny311 := Aside0.mk hy311; clear hy311; obtain rfl := Option.some.inj H
                        try go_wp2
                        have n0_ := Aside0.mk (Kd.R_drew HO_5.out); have n1_ := Aside0.mk (below_drew1 HB.out); clear HO_5; clear HB; have HO_5 := n0_; have HB := n1_; clear n0_ n1_; have p303 : 0 ≤ (0 : Int) := (by omega)
                        have q303 : 0 < (l0.length : Int) := of_decide_eq_true (by first | (with_reducible assumption) | assumption)
                        obtain ⟨ad303, e303, hx303_0⟩ := Kd.at_int HR0.out 0 p303 q303
                        have hw303_0 := hx303_0
                        (try rw [show ((0 : Int)).toNat = 0 from rfl] at hw303_0)
                        (try rw [show 0 * 1 = 0 from rfl] at hw303_0)
                        (try rw [Addr.add_zero'] at hw303_0)
                        obtain rfl : ad295 = ad303 := (by injection e303)
                        have qi303 : (0 < l0.length) = True := eq_true (by omega)
                        (try rw [show ((0 : Int)).toNat = 0 from rfl] at hx303_0)
                        (try rw [Addr.add_zero'] at hx303_0)
                        replace hx303_0 := (HB.out.cell (World.block_lt_of_cell? w _ hx303_0)).trans hx303_0
                        replace p303 := eq_true p303
                        replace q303 := eq_true q303
                        have p304 : 0 ≤ (1 : Int) := (by omega)
                        have q304 : 1 < (l0.length : Int) := of_decide_eq_true (by first | (with_reducible assumption) | assumption)
                        obtain ⟨ad304, e304, hx304_0⟩ := Kd.at_int HR0.out 1 p304 q304
                        have hw304_0 := hx304_0
                        (try rw [show ((1 : Int)).toNat = 1 from rfl] at hw304_0)
                        (try rw [show 1 * 1 = 1 from rfl] at hw304_0)
                        (try simp only [Nat.reduceMul, Nat.reduceEqDiff, Go.Addr.add, ↓reduceIte] at hw304_0)
                        obtain rfl : ad295 = ad304 := (by injection e304)
                        (try simp only [show (1 : Int).toNat = 1 from rfl, Nat.reduceMul, Nat.reduceEqDiff, Go.Addr.add, ↓reduceIte] at hx304_0)
                        have qi304 : (1 < l0.length) = True := eq_true (by omega)
                        (try rw [show ((1 : Int)).toNat = 1 from rfl] at hx304_0)
                        replace hx304_0 := (HB.out.cell (World.block_lt_of_cell? w _ hx304_0)).trans hx304_0
                        replace p304 := eq_true p304
                        replace q304 := eq_true q304
                        have p305 : 0 ≤ (2 : Int) := (by omega)
                        have q305 : 2 < (l0.length : Int) := of_decide_eq_true (by first | (with_reducible assumption) | assumption)
                        obtain ⟨ad305, e305, hx305_0⟩ := Kd.at_int HR0.out 2 p305 q305
                        have hw305_0 := hx305_0
                        (try rw [show ((2 : Int)).toNat = 2 from rfl] at hw305_0)
                        (try rw [show 2 * 1 = 2 from rfl] at hw305_0)
                        (try simp only [Nat.reduceMul, Nat.reduceEqDiff, Go.Addr.add, ↓reduceIte] at hw305_0)
                        obtain rfl : ad295 = ad305 := (by injection e305)
                        (try simp only [show (2 : Int).toNat = 2 from rfl, Nat.reduceMul, Nat.reduceEqDiff, Go.Addr.add, ↓reduceIte] at hx305_0)
                        have qi305 : (2 < l0.length) = True := eq_true (by omega)
                        (try rw [show ((2 : Int)).toNat = 2 from rfl] at hx305_0)
                        replace hx305_0 := (HB.out.cell (World.block_lt_of_cell? w _ hx305_0)).trans hx305_0
                        replace p305 := eq_true p305
                        replace q305 := eq_true q305
                        have p306 : 0 ≤ (3 : Int) := (by omega)
                        have q306 : 3 < (l0.length : Int) := of_decide_eq_true (by first | (with_reducible assumption) | assumption)
                        obtain ⟨ad306, e306, hx306_0⟩ := Kd.at_int HR0.out 3 p306 q306
                        have hw306_0 := hx306_0
                        (try rw [show ((3 : Int)).toNat = 3 from rfl] at hw306_0)
                        (try rw [show 3 * 1 = 3 from rfl] at hw306_0)
                        (try simp only [Nat.reduceMul, Nat.reduceEqDiff, Go.Addr.add, ↓reduceIte] at hw306_0)
                        obtain rfl : ad295 = ad306 := (by injection e306)
                        (try simp only [show (3 : Int).toNat = 3 from rfl, Nat.reduceMul, Nat.reduceEqDiff, Go.Addr.add, ↓reduceIte] at hx306_0)
                        have qi306 : (3 < l0.length) = True := eq_true (by omega)
                        (try rw [show ((3 : Int)).toNat = 3 from rfl] at hx306_0)
                        replace hx306_0 := (HB.out.cell (World.block_lt_of_cell? w _ hx306_0)).trans hx306_0
                        replace p306 := eq_true p306
                        replace q306 := eq_true q306
                        have p307 : 0 ≤ (4 : Int) := (by omega)
                        have q307 : 4 < (l0.length : Int) := of_decide_eq_true (by first | (with_reducible assumption) | assumption)
                        obtain ⟨ad307, e307, hx307_0⟩ := Kd.at_int HR0.out 4 p307 q307
                        have hw307_0 := hx307_0
                        (try rw [show ((4 : Int)).toNat = 4 from rfl] at hw307_0)
                        (try rw [show 4 * 1 = 4 from rfl] at hw307_0)
                        (try simp only [Nat.reduceMul, Nat.reduceEqDiff, Go.Addr.add, ↓reduceIte] at hw307_0)
                        obtain rfl : ad295 = ad307 := (by injection e307)
                        (try simp only [show (4 : Int).toNat = 4 from rfl, Nat.reduceMul, Nat.reduceEqDiff, Go.Addr.add, ↓reduceIte] at hx307_0)
                        have qi307 : (4 < l0.length) = True := eq_true (by omega)
                        (try rw [show ((4 : Int)).toNat = 4 from rfl] at hx307_0)
                        replace hx307_0 := (HB.out.cell (World.block_lt_of_cell? w _ hx307_0)).trans hx307_0
                        replace p307 := eq_true p307
                        replace q307 := eq_true q307
                        have p308 : 0 ≤ (5 : Int) := (by omega)
                        have q308 : 5 < (l0.length : Int) := of_decide_eq_true (by first | (with_reducible assumption) | assumption)
                        obtain ⟨ad308, e308, hx308_0⟩ := Kd.at_int HR0.out 5 p308 q308
                        have hw308_0 := hx308_0
                        (try rw [show ((5 : Int)).toNat = 5 from rfl] at hw308_0)
                        (try rw [show 5 * 1 = 5 from rfl] at hw308_0)
                        (try simp only [Nat.reduceMul, Nat.reduceEqDiff, Go.Addr.add, ↓reduceIte] at hw308_0)
                        obtain rfl : ad295 = ad308 := (by injection e308)
                        (try simp only [show (5 : Int).toNat = 5 from rfl, Nat.reduceMul, Nat.reduceEqDiff, Go.Addr.add, ↓reduceIte] at hx308_0)
                        have qi308 : (5 < l0.length) = True := eq_true (by omega)
                        (try rw [show ((5 : Int)).toNat = 5 from rfl] at hx308_0)
                        replace hx308_0 := (HB.out.cell (World.block_lt_of_cell? w _ hx308_0)).trans hx308_0
                        replace p308 := eq_true p308
                        replace q308 := eq_true q308
                        have p309 : 0 ≤ (6 : Int) := (by omega)
                        have q309 : 6 < (l0.length : Int) := of_decide_eq_true (by first | (with_reducible assumption) | assumption)
                        obtain ⟨ad309, e309, hx309_0⟩ := Kd.at_int HR0.out 6 p309 q309
                        have hw309_0 := hx309_0
                        (try rw [show ((6 : Int)).toNat = 6 from rfl] at hw309_0)
                        (try rw [show 6 * 1 = 6 from rfl] at hw309_0)
                        (try simp only [Nat.reduceMul, Nat.reduceEqDiff, Go.Addr.add, ↓reduceIte] at hw309_0)
                        obtain rfl : ad295 = ad309 := (by injection e309)
                        (try simp only [show (6 : Int).toNat = 6 from rfl, Nat.reduceMul, Nat.reduceEqDiff, Go.Addr.add, ↓reduceIte] at hx309_0)
                        have qi309 : (6 < l0.length) = True := eq_true (by omega)
                        (try rw [show ((6 : Int)).toNat = 6 from rfl] at hx309_0)
                        replace hx309_0 := (HB.out.cell (World.block_lt_of_cell? w _ hx309_0)).trans hx309_0
                        replace p309 := eq_true p309
                        replace q309 := eq_true q309
                        have p310 : 0 ≤ (7 : Int) := (by omega)
                        have q310 : 7 < (l0.length : Int) := of_decide_eq_true (by first | (with_reducible assumption) | assumption)
                        obtain ⟨ad310, e310, hx310_0⟩ := Kd.at_int HR0.out 7 p310 q310
                        have hw310_0 := hx310_0
                        (try rw [show ((7 : Int)).toNat = 7 from rfl] at hw310_0)
                        (try rw [show 7 * 1 = 7 from rfl] at hw310_0)
                        (try simp only [Nat.reduceMul, Nat.reduceEqDiff, Go.Addr.add, ↓reduceIte] at hw310_0)
                        obtain rfl : ad295 = ad310 := (by injection e310)
                        (try simp only [show (7 : Int).toNat = 7 from rfl, Nat.reduceMul, Nat.reduceEqDiff, Go.Addr.add, ↓reduceIte] at hx310_0)
                        have qi310 : (7 < l0.length) = True := eq_true (by omega)
                        (try rw [show ((7 : Int)).toNat = 7 from rfl] at hx310_0)
                        replace hx310_0 := (HB.out.cell (World.block_lt_of_cell? w _ hx310_0)).trans hx310_0
                        replace p310 := eq_true p310
                        replace q310 := eq_true q310
                        refine start_ (n := 42) (S := fun w' => w'.cell? ad295 = some (.int .u32 (rd l0 0)) ∧ w'.cell? ⟨ad295.block, ad295.off + 1, none⟩ = some (.int .u32 (rd l0 1)) ∧ w'.cell? ⟨ad295.block, ad295.off + 2, none⟩ = some (.int .u32 (rd l0 2)) ∧ w'.cell? ⟨ad295.block, ad295.off + 3, none⟩ = some (.int .u32 (rd l0 3)) ∧ w'.cell? ⟨ad295.block, ad295.off + 4, none⟩ = some (.int .u32 (rd l0 4)) ∧ w'.cell? ⟨ad295.block, ad295.off + 5, none⟩ = some (.int .u32 (rd l0 5)) ∧ w'.cell? ⟨ad295.block, ad295.off + 6, none⟩ = some (.int .u32 (rd l0 6)) ∧ w'.cell? ⟨ad295.block, ad295.off + 7, none⟩ = some (.int .u32 (rd l0 7))) (ds := []) #[false, false, false, false, false, false, false, false, false, false, false, false, false, false, false, false, false, false, false, false, false, false, false, false, false, false, false, false, false, false, false, false, false, false, false, false, false, false, false, false, false, false] (by kernel_rfl) rfl rfl ⟨((HB.out.cell (World.block_lt_of_cell? w _ hw303_0)).trans hw303_0), ((HB.out.cell (World.block_lt_of_cell? w _ hw304_0)).trans hw304_0), ((HB.out.cell (World.block_lt_of_cell? w _ hw305_0)).trans hw305_0), ((HB.out.cell (World.block_lt_of_cell? w _ hw306_0)).trans hw306_0), ((HB.out.cell (World.block_lt_of_cell? w _ hw307_0)).trans hw307_0), ((HB.out.cell (World.block_lt_of_cell? w _ hw308_0)).trans hw308_0), ((HB.out.cell (World.block_lt_of_cell? w _ hw309_0)).trans hw309_0), ((HB.out.cell (World.block_lt_of_cell? w _ hw310_0)).trans hw310_0)⟩ (fun hHeld => ?_); refine with_tabW wristbandref02_Block.tab29 wristbandref02_Block.bits29 (fun HT_ HW_ => ?_)
                        generalize wr.drew = w59 at HO_5 HB hx303_0 hx304_0 hx305_0 hx306_0 hx307_0 hx308_0 hx309_0 hx310_0 hHeld ⊢
                        refine pu_ 0 167 (rA [1,41]) HT_ (by kernel_rfl) rfl rfl (fun _ _ _ => id) (.inl ⟨by rfl, fun w' => by go_simp; with_reducible rfl⟩) (by simp only [Act.put, sA, s0, sS, i64_w, i32_w]; rfl) ?_
                        refine pu_ 1 168 (rA [2,40]) HT_ (by kernel_rfl) rfl rfl (fun _ _ _ => id) (.inl ⟨by rfl, fun w' => by go_simp; with_reducible rfl⟩) (by simp only [Act.put, sA, s0, sS, i64_w, i32_w]; rfl) ?_
                        refine pu_ 3 170 (rA [2,1,1,38]) HT_ (by kernel_rfl) rfl rfl (fun _ _ _ => id) (.inl ⟨by rfl, fun w' => by go_simp; with_reducible rfl⟩) (by simp only [Act.put, sA, s0, sS, i64_w, i32_w]; rfl) ?_
                        refine pu_ 5 172 (rA [2,1,1,1,1,36]) HT_ (by kernel_rfl) rfl rfl (fun _ _ _ => id) (.inl ⟨by rfl, fun w' => by go_simp; with_reducible rfl⟩) (by simp only [Act.put, sA, s0, sS, i64_w, i32_w]; rfl) ?_
                        refine pu_ 6 173 (rA [2,1,1,1,2,35]) HT_ (by kernel_rfl) rfl rfl (fun _ _ _ => id) (.inl ⟨by rfl, fun w' => by go_simp; with_reducible rfl⟩) (by simp only [Act.put, sA, s0, sS, i64_w, i32_w]; rfl) ?_
                        refine pu_ 8 175 (rA [2,1,1,1,2,1,1,33]) HT_ (by kernel_rfl) rfl rfl (fun _ _ _ => id) (.inl ⟨by rfl, fun w' => by go_simp; with_reducible rfl⟩) (by simp only [Act.put, sA, s0, sS, i64_w, i32_w]; rfl) ?_
                        refine pu_ 10 177 (rA [2,1,1,1,2,1,1,1,1,31]) HT_ (by kernel_rfl) rfl rfl (fun _ _ _ => id) (.inl ⟨by rfl, fun w' => by go_simp; with_reducible rfl⟩) (by simp only [Act.put, sA, s0, sS, i64_w, i32_w]; rfl) ?_
                        refine pu_ 11 178 (rA [2,1,1,1,2,1,1,1,2,30]) HT_ (by kernel_rfl) rfl rfl (fun _ _ _ => id) (.inl ⟨by rfl, fun w' => by go_simp; with_reducible rfl⟩) (by simp only [Act.put, sA, s0, sS, i64_w, i32_w]; rfl) ?_
                        refine pu_ 13 180 (rA [2,1,1,1,2,1,1,1,2,1,1,28]) HT_ (by kernel_rfl) rfl rfl (fun _ _ _ => id) (.inl ⟨by rfl, fun w' => by go_simp; with_reducible rfl⟩) (by simp only [Act.put, sA, s0, sS, i64_w, i32_w]; rfl) ?_
                        refine pu_ 15 182 (rA [2,1,1,1,2,1,1,1,2,1,1,1,1,26]) HT_ (by kernel_rfl) rfl rfl (fun _ _ _ => id) (.inl ⟨by rfl, fun w' => by go_simp; with_reducible rfl⟩) (by simp only [Act.put, sA, s0, sS, i64_w, i32_w]; rfl) ?_
                        refine pu_ 16 183 (rA [2,1,1,1,2,1,1,1,2,1,1,1,2,25]) HT_ (by kernel_rfl) rfl rfl (fun _ _ _ => id) (.inl ⟨by rfl, fun w' => by go_simp; with_reducible rfl⟩) (by simp only [Act.put, sA, s0, sS, i64_w, i32_w]; rfl) ?_
                        refine pu_ 18 185 (rA [2,1,1,1,2,1,1,1,2,1,1,1,2,1,1,23]) HT_ (by kernel_rfl) rfl rfl (fun _ _ _ => id) (.inl ⟨by rfl, fun w' => by go_simp; with_reducible rfl⟩) (by simp only [Act.put, sA, s0, sS, i64_w, i32_w]; rfl) ?_
                        refine pu_ 20 187 (rA [2,1,1,1,2,1,1,1,2,1,1,1,2,1,1,1,1,21]) HT_ (by kernel_rfl) rfl rfl (fun _ _ _ => id) (.inl ⟨by rfl, fun w' => by go_simp; with_reducible rfl⟩) (by simp only [Act.put, sA, s0, sS, i64_w, i32_w]; rfl) ?_
                        refine pu_ 21 188 (rA [2,1,1,1,2,1,1,1,2,1,1,1,2,1,1,1,2,20]) HT_ (by kernel_rfl) rfl rfl (fun _ _ _ => id) (.inl ⟨by rfl, fun w' => by go_simp; with_reducible rfl⟩) (by simp only [Act.put, sA, s0, sS, i64_w, i32_w]; rfl) ?_
                        refine pu_ 23 190 (rA [2,1,1,1,2,1,1,1,2,1,1,1,2,1,1,1,2,1,1,18]) HT_ (by kernel_rfl) rfl rfl (fun _ _ _ => id) (.inl ⟨by rfl, fun w' => by go_simp; with_reducible rfl⟩) (by simp only [Act.put, sA, s0, sS, i64_w, i32_w]; rfl) ?_
                        refine pu_ 25 192 (rA [2,1,1,1,2,1,1,1,2,1,1,1,2,1,1,1,2,1,1,1,1,16]) HT_ (by kernel_rfl) rfl rfl (fun _ _ _ => id) (.inl ⟨by rfl, fun w' => by go_simp; with_reducible rfl⟩) (by simp only [Act.put, sA, s0, sS, i64_w, i32_w]; rfl) ?_
                        refine pu_ 26 193 (rA [2,1,1,1,2,1,1,1,2,1,1,1,2,1,1,1,2,1,1,1,2,15]) HT_ (by kernel_rfl) rfl rfl (fun _ _ _ => id) (.inl ⟨by rfl, fun w' => by go_simp; with_reducible rfl⟩) (by simp only [Act.put, sA, s0, sS, i64_w, i32_w]; rfl) ?_
                        refine pu_ 28 195 (rA [2,1,1,1,2,1,1,1,2,1,1,1,2,1,1,1,2,1,1,1,2,1,1,13]) HT_ (by kernel_rfl) rfl rfl (fun _ _ _ => id) (.inl ⟨by rfl, fun w' => by go_simp; with_reducible rfl⟩) (by simp only [Act.put, sA, s0, sS, i64_w, i32_w]; rfl) ?_
                        refine pu_ 30 197 (rA [2,1,1,1,2,1,1,1,2,1,1,1,2,1,1,1,2,1,1,1,2,1,1,1,1,11]) HT_ (by kernel_rfl) rfl rfl (fun _ _ _ => id) (.inl ⟨by rfl, fun w' => by go_simp; with_reducible rfl⟩) (by simp only [Act.put, sA, s0, sS, i64_w, i32_w]; rfl) ?_
                        refine pu_ 31 198 (rA [2,1,1,1,2,1,1,1,2,1,1,1,2,1,1,1,2,1,1,1,2,1,1,1,2,10]) HT_ (by kernel_rfl) rfl rfl (fun _ _ _ => id) (.inl ⟨by rfl, fun w' => by go_simp; with_reducible rfl⟩) (by simp only [Act.put, sA, s0, sS, i64_w, i32_w]; rfl) ?_
                        refine pu_ 33 200 (rA [2,1,1,1,2,1,1,1,2,1,1,1,2,1,1,1,2,1,1,1,2,1,1,1,2,1,1,8]) HT_ (by kernel_rfl) rfl rfl (fun _ _ _ => id) (.inl ⟨by rfl, fun w' => by go_simp; with_reducible rfl⟩) (by simp only [Act.put, sA, s0, sS, i64_w, i32_w]; rfl) ?_
                        refine pu_ 35 202 (rA [2,1,1,1,2,1,1,1,2,1,1,1,2,1,1,1,2,1,1,1,2,1,1,1,2,1,1,1,1,6]) HT_ (by kernel_rfl) rfl rfl (fun _ _ _ => id) (.inl ⟨by rfl, fun w' => by go_simp; with_reducible rfl⟩) (by simp only [Act.put, sA, s0, sS, i64_w, i32_w]; rfl) ?_
                        refine pu_ 36 203 (rA [2,1,1,1,2,1,1,1,2,1,1,1,2,1,1,1,2,1,1,1,2,1,1,1,2,1,1,1,2,5]) HT_ (by kernel_rfl) rfl rfl (fun _ _ _ => id) (.inl ⟨by rfl, fun w' => by go_simp; with_reducible rfl⟩) (by simp only [Act.put, sA, s0, sS, i64_w, i32_w]; rfl) ?_
                        refine pu_ 38 205 (rA [2,1,1,1,2,1,1,1,2,1,1,1,2,1,1,1,2,1,1,1,2,1,1,1,2,1,1,1,2,1,1,3]) HT_ (by kernel_rfl) rfl rfl (fun _ _ _ => id) (.inl ⟨by rfl, fun w' => by go_simp; with_reducible rfl⟩) (by simp only [Act.put, sA, s0, sS, i64_w, i32_w]; rfl) ?_
                        refine take_ (i := 2) (N := some 169) (v := ?_) (a' := ?_) #[true, true, true, true, false, true, true, false, true, false, true, true, false, true, false, true, true, false, true, false, true, true, false, true, false, true, true, false, true, false, true, true, false, true, false, true, true, false, true, false, false, false] rfl rfl (take_ofW HT_.out HW_.out (by kernel_rfl)) (fun _ _ _ h => h) (Or.inl ⟨by rfl, ?_⟩) hHeld ?_ ?_
                        rotate_left
                        ·rintro w' ⟨s0, s1, s2, s3, s4, s5, s6, s7⟩
                         go_simp
                         with_reducible rfl
                        rotate_left
                        ·simp only [Act.put, sA, s0, sS, i64_w, i32_w]
                         rfl
                        refine pu_ 4 171 (rA [7,1,1,1,2,1,1,1,2,1,1,1,2,1,1,1,2,1,1,1,2,1,1,1,2,1,1,3]) HT_ (by kernel_rfl) rfl rfl (fun _ _ _ => id) (.inl ⟨by rfl, fun w' => by go_simp; with_reducible rfl⟩) (by simp only [Act.put, sA, s0, sS, i64_w, i32_w]; rfl) ?_
                        refine take_ (i := 7) (N := some 174) (v := ?_) (a' := ?_) #[true, true, true, true, true, true, true, true, true, false, true, true, false, true, false, true, true, false, true, false, true, true, false, true, false, true, true, false, true, false, true, true, false, true, false, true, true, false, true, false, false, false] rfl rfl (take_ofW HT_.out HW_.out (by kernel_rfl)) (fun _ _ _ h => h) (Or.inl ⟨by rfl, ?_⟩) hHeld ?_ ?_
                        rotate_left
                        ·rintro w' ⟨s0, s1, s2, s3, s4, s5, s6, s7⟩
                         go_simp
                         with_reducible rfl
                        rotate_left
                        ·simp only [Act.put, sA, s0, sS, i64_w, i32_w]
                         rfl
                        refine pu_ 9 176 (rA [12,1,1,1,2,1,1,1,2,1,1,1,2,1,1,1,2,1,1,1,2,1,1,3]) HT_ (by kernel_rfl) rfl rfl (fun _ _ _ => id) (.inl ⟨by rfl, fun w' => by go_simp; with_reducible rfl⟩) (by simp only [Act.put, sA, s0, sS, i64_w, i32_w]; rfl) ?_
                        refine take_ (i := 12) (N := some 179) (v := ?_) (a' := ?_) #[true, true, true, true, true, true, true, true, true, true, true, true, true, true, false, true, true, false, true, false, true, true, false, true, false, true, true, false, true, false, true, true, false, true, false, true, true, false, true, false, false, false] rfl rfl (take_ofW HT_.out HW_.out (by kernel_rfl)) (fun _ _ _ h => h) (Or.inl ⟨by rfl, ?_⟩) hHeld ?_ ?_
                        rotate_left
                        ·rintro w' ⟨s0, s1, s2, s3, s4, s5, s6, s7⟩
                         go_simp
                         with_reducible rfl
                        rotate_left
                        ·simp only [Act.put, sA, s0, sS, i64_w, i32_w]
                         rfl
                        refine pu_ 14 181 (rA [17,1,1,1,2,1,1,1,2,1,1,1,2,1,1,1,2,1,1,3]) HT_ (by kernel_rfl) rfl rfl (fun _ _ _ => id) (.inl ⟨by rfl, fun w' => by go_simp; with_reducible rfl⟩) (by simp only [Act.put, sA, s0, sS, i64_w, i32_w]; rfl) ?_
                        refine take_ (i := 17) (N := some 184) (v := ?_) (a' := ?_) #[true, true, true, true, true, true, true, true, true, true, true, true, true, true, true, true, true, true, true, false, true, true, false, true, false, true, true, false, true, false, true, true, false, true, false, true, true, false, true, false, false, false] rfl rfl (take_ofW HT_.out HW_.out (by kernel_rfl)) (fun _ _ _ h => h) (Or.inl ⟨by rfl, ?_⟩) hHeld ?_ ?_
                        rotate_left
                        ·rintro w' ⟨s0, s1, s2, s3, s4, s5, s6, s7⟩
                         go_simp
                         with_reducible rfl
                        rotate_left
                        ·simp only [Act.put, sA, s0, sS, i64_w, i32_w]
                         rfl
                        refine pu_ 19 186 (rA [22,1,1,1,2,1,1,1,2,1,1,1,2,1,1,3]) HT_ (by kernel_rfl) rfl rfl (fun _ _ _ => id) (.inl ⟨by rfl, fun w' => by go_simp; with_reducible rfl⟩) (by simp only [Act.put, sA, s0, sS, i64_w, i32_w]; rfl) ?_
                        refine take_ (i := 22) (N := some 189) (v := ?_) (a' := ?_) #[true, true, true, true, true, true, true, true, true, true, true, true, true, true, true, true, true, true, true, true, true, true, true, true, false, true, true, false, true, false, true, true, false, true, false, true, true, false, true, false, false, false] rfl rfl (take_ofW HT_.out HW_.out (by kernel_rfl)) (fun _ _ _ h => h) (Or.inl ⟨by rfl, ?_⟩) hHeld ?_ ?_
                        rotate_left
                        ·rintro w' ⟨s0, s1, s2, s3, s4, s5, s6, s7⟩
                         go_simp
                         with_reducible rfl
                        rotate_left
                        ·simp only [Act.put, sA, s0, sS, i64_w, i32_w]
                         rfl
                        refine pu_ 24 191 (rA [27,1,1,1,2,1,1,1,2,1,1,3]) HT_ (by kernel_rfl) rfl rfl (fun _ _ _ => id) (.inl ⟨by rfl, fun w' => by go_simp; with_reducible rfl⟩) (by simp only [Act.put, sA, s0, sS, i64_w, i32_w]; rfl) ?_
                        refine take_ (i := 27) (N := some 194) (v := ?_) (a' := ?_) #[true, true, true, true, true, true, true, true, true, true, true, true, true, true, true, true, true, true, true, true, true, true, true, true, true, true, true, true, true, false, true, true, false, true, false, true, true, false, true, false, false, false] rfl rfl (take_ofW HT_.out HW_.out (by kernel_rfl)) (fun _ _ _ h => h) (Or.inl ⟨by rfl, ?_⟩) hHeld ?_ ?_
                        rotate_left
                        ·rintro w' ⟨s0, s1, s2, s3, s4, s5, s6, s7⟩
                         go_simp
                         with_reducible rfl
                        rotate_left
                        ·simp only [Act.put, sA, s0, sS, i64_w, i32_w]
                         rfl
                        refine pu_ 29 196 (rA [32,1,1,1,2,1,1,3]) HT_ (by kernel_rfl) rfl rfl (fun _ _ _ => id) (.inl ⟨by rfl, fun w' => by go_simp; with_reducible rfl⟩) (by simp only [Act.put, sA, s0, sS, i64_w, i32_w]; rfl) ?_
                        refine take_ (i := 32) (N := some 199) (v := ?_) (a' := ?_) #[true, true, true, true, true, true, true, true, true, true, true, true, true, true, true, true, true, true, true, true, true, true, true, true, true, true, true, true, true, true, true, true, true, true, false, true, true, false, true, false, false, false] rfl rfl (take_ofW HT_.out HW_.out (by kernel_rfl)) (fun _ _ _ h => h) (Or.inl ⟨by rfl, ?_⟩) hHeld ?_ ?_
                        rotate_left
                        ·rintro w' ⟨s0, s1, s2, s3, s4, s5, s6, s7⟩
                         go_simp
                         with_reducible rfl
                        rotate_left
                        ·simp only [Act.put, sA, s0, sS, i64_w, i32_w]
                         rfl
                        refine pu_ 34 201 (rA [37,1,1,3]) HT_ (by kernel_rfl) rfl rfl (fun _ _ _ => id) (.inl ⟨by rfl, fun w' => by go_simp; with_reducible rfl⟩) (by simp only [Act.put, sA, s0, sS, i64_w, i32_w]; rfl) ?_
                        refine take_ (i := 37) (N := some 204) (v := ?_) (a' := ?_) #[true, true, true, true, true, true, true, true, true, true, true, true, true, true, true, true, true, true, true, true, true, true, true, true, true, true, true, true, true, true, true, true, true, true, true, true, true, true, true, false, false, false] rfl rfl (take_ofW HT_.out HW_.out (by kernel_rfl)) (fun _ _ _ h => h) (Or.inl ⟨by rfl, ?_⟩) hHeld ?_ ?_
                        rotate_left
                        ·rintro w' ⟨s0, s1, s2, s3, s4, s5, s6, s7⟩
                         go_simp
                         with_reducible rfl
                        rotate_left
                        ·simp only [Act.put, sA, s0, sS, i64_w, i32_w]
                         rfl
                        refine pu_ 39 206 (rA [40,2]) HT_ (by kernel_rfl) rfl rfl (fun _ _ _ => id) (.inl ⟨by rfl, fun w' => by go_simp; with_reducible rfl⟩) (by simp only [Act.put, sA, s0, sS, i64_w, i32_w]; rfl) ?_
                        refine one_ (i := 40) (N := some 207) (rA [41,1]) rfl rfl (one_of HT_.out (by kernel_rfl)) (by decide) (fun K hK => ?_)
                        refine Kd.R_lit_step (Kd.int .u32) _ 22 ?hg (N := 207) ?hd (xs := ([((rd l0 0) + x11_2) % 4294967296, ((rd l0 1) + x12_2) % 4294967296, ((rd l0 2) + x13_2) % 4294967296, ((rd l0 3) + x14_2) % 4294967296, ((rd l0 4) + x15_2) % 4294967296, ((rd l0 5) + x16_2) % 4294967296, ((rd l0 6) + x17_2) % 4294967296, ((rd l0 7) + x18_2) % 4294967296] : List Int)) (inner := [.int .u32 (((rd l0 0) + x11_2) % 4294967296), .int .u32 (((rd l0 1) + x12_2) % 4294967296), .int .u32 (((rd l0 2) + x13_2) % 4294967296), .int .u32 (((rd l0 3) + x14_2) % 4294967296), .int .u32 (((rd l0 4) + x15_2) % 4294967296), .int .u32 (((rd l0 5) + x16_2) % 4294967296), .int .u32 (((rd l0 6) + x17_2) % 4294967296), .int .u32 (((rd l0 7) + x18_2) % 4294967296)]) (ok := fun _ => True) (okp := fun _ => True) ?hr ?hp (fun _ hk => hk) trivial (Below.refl _ _) (Nat.le_refl _) (by simp) ?_; (case hd => rfl); (case hg => rfl); (case hr => first | (go_simp; done) | (go_simp; rfl)); (case hp => exact (Reps.one (show Kd.M (Kd.int .u32) _ _ _ (((rd l0 0) + x11_2) % 4294967296) [.int .u32 (((rd l0 0) + x11_2) % 4294967296)] from rfl) (Reps.one (show Kd.M (Kd.int .u32) _ _ _ (((rd l0 1) + x12_2) % 4294967296) [.int .u32 (((rd l0 1) + x12_2) % 4294967296)] from rfl) (Reps.one (show Kd.M (Kd.int .u32) _ _ _ (((rd l0 2) + x13_2) % 4294967296) [.int .u32 (((rd l0 2) + x13_2) % 4294967296)] from rfl) (Reps.one (show Kd.M (Kd.int .u32) _ _ _ (((rd l0 3) + x14_2) % 4294967296) [.int .u32 (((rd l0 3) + x14_2) % 4294967296)] from rfl) (Reps.one (show Kd.M (Kd.int .u32) _ _ _ (((rd l0 4) + x15_2) % 4294967296) [.int .u32 (((rd l0 4) + x15_2) % 4294967296)] from rfl) (Reps.one (show Kd.M (Kd.int .u32) _ _ _ (((rd l0 5) + x16_2) % 4294967296) [.int .u32 (((rd l0 5) + x16_2) % 4294967296)] from rfl) (Reps.one (show Kd.M (Kd.int .u32) _ _ _ (((rd l0 6) + x17_2) % 4294967296) [.int .u32 (((rd l0 6) + x17_2) % 4294967296)] from rfl) (Reps.one (show Kd.M (Kd.int .u32) _ _ _ (((rd l0 7) + x18_2) % 4294967296) [.int .u32 (((rd l0 7) + x18_2) % 4294967296)] from rfl) (Reps.none _ _))))))))))
                        intro v312 w60 ho61 hb hg_ hnew_; clear hg_ hnew_
                        (first | rw [← Ny311.out] at ho61 | (simp only [Int.reduceToNat] at ho61; rw [← Ny311.out] at ho61)); have n0_ := Aside0.mk (Kd.R_elder' (by (with_reducible repeat (first | apply rL | apply rN | apply rW)); exact HO_5.out) (Kd.R_base ho61) hb); have n1_ := Aside0.mk (Kd.R_lower (Kd.R_new' ho61 (Kd.R_lt (by (with_reducible repeat (first | apply rL | apply rN | apply rW)); exact HO_5.out))) (below_size (by repeat (first | (with_reducible first | exact HB.out | apply bA | apply bN | apply bD) | exact HB.out)))); have n2_ := Aside0.mk (below_step (by repeat (first | (with_reducible first | exact HB.out | apply bA | apply bN | apply bD) | exact HB.out)) hb); clear HO_5
                        clear HB; have HO_5 := n0_; have HO313 := n1_; have HB := n2_; clear n0_ n1_ n2_; clear hb ho61; refine hK.out _ _ ⟨((HB.out.cell (World.block_lt_of_cell? w _ hw303_0)).trans hw303_0), ((HB.out.cell (World.block_lt_of_cell? w _ hw304_0)).trans hw304_0), ((HB.out.cell (World.block_lt_of_cell? w _ hw305_0)).trans hw305_0), ((HB.out.cell (World.block_lt_of_cell? w _ hw306_0)).trans hw306_0), ((HB.out.cell (World.block_lt_of_cell? w _ hw307_0)).trans hw307_0), ((HB.out.cell (World.block_lt_of_cell? w _ hw308_0)).trans hw308_0), ((HB.out.cell (World.block_lt_of_cell? w _ hw309_0)).trans hw309_0), ((HB.out.cell (World.block_lt_of_cell? w _ hw310_0)).trans hw310_0)⟩ (fun hHeld => ?_)
                        clear hK K; refine norm_ (a' := ?_) ?_ ?_
                        rotate_left
                        ·show Act.put _ (some 207) _ = _
                         simp only [Act.put, sA, s0, sS, i64_w, i32_w]
                         rfl
                        refine pu_ 41 4 (rA [42]) HT_ (by kernel_rfl) rfl rfl (fun _ _ _ => id) (.inl ⟨by rfl, fun w' => by go_simp; with_reducible rfl⟩) (by simp only [Act.put, sA, s0, sS, i64_w, i32_w]; rfl) ?_
                        refine done_ (done_of HT_.out (by kernel_rfl)) ?_
                        try go_wp2
                        go_ret
                        exact ⟨_, by first | rfl | (simp [errW_none, errW_some] <;> rfl) | (simp [*, errW_none, errW_some] <;> rfl), by (with_reducible repeat (first | apply rL | apply rN | apply rW)); exact Kd.R_mono HO313.out (fun _ hk => trivial), by repeat (first | (with_reducible first | exact HB.out | apply bA | apply bN | apply bD) | exact HB.out)⟩
                       ·rw [if_neg c58] at H
                        exact absurd H (by simp)
                      ·rw [if_neg c57] at H
                       exact absurd H (by simp)
                     ·rw [if_neg c56] at H
                      exact absurd H (by simp)
                    ·rw [if_neg c55] at H
                     exact absurd H (by simp)
                   ·rw [if_neg c54] at H
                    exact absurd H (by simp)
                  ·rw [if_neg c53] at H
                   exact absurd H (by simp)
                 ·rw [if_neg c52] at H
                  exact absurd H (by simp)
                ·rw [if_neg c51] at H
                 exact absurd H (by simp)
            ·rw [if_neg c35] at H
             exact absurd H (by simp)
           ·rw [if_neg c34] at H
            exact absurd H (by simp)
          ·rw [if_neg c33] at H
           exact absurd H (by simp)
         ·rw [if_neg c32] at H
          exact absurd H (by simp)
        ·rw [if_neg c31] at H
         exact absurd H (by simp)
       ·rw [if_neg c30] at H
        exact absurd H (by simp)
      ·rw [if_neg c29] at H
       exact absurd H (by simp)
     ·rw [if_neg c28] at H
      exact absurd H (by simp)

end Go.Proofs.YtnpkhkhlofkbhaaDoor.PSlipRight
