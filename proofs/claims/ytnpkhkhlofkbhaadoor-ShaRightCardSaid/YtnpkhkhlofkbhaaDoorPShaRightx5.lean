-- made by a program of this session (its printer) out of what Lean prints of the given program
import Derived.Test.YtnpkhkhlofkbhaaDoorPShaRightx0
import Derived.Test.YtnpkhkhlofkbhaaDoorPShaRightx4
namespace Go.Proofs.YtnpkhkhlofkbhaaDoor.PShaRight
open Go.RowKit Go.Proofs.YtnpkhkhlofkbhaaDoorW.PrintWords Go.Proofs.YtnpkhkhlofkbhaaDoorW.PrintLast Go.Proofs.YtnpkhkhlofkbhaaDoorW.PrintMore
attribute [local go_sem] max2_int min2_int max_two min_two max_three min_three max_four min_four   -- for this text's walks alone
set_option linter.unusedVariables false
set_option linter.unusedSimpArgs false

/-! ### wristbandref02_Block: function 18 -/
mutual
def wristbandref02_Block.l0 : Nat → List Int → List Int → Int → Option (List Int)
  | 0, _, _, _ => none
  | k + 1, x0, x5, x6 => if x6 < 64 then (if 0 ≤ (wrap64 (x6 - 15)) then (if (wrap64 (x6 - 15)) < (x5.length : Int) then (if 0 ≤ (wrap64 (x6 - 2)) then (if (wrap64 (x6 - 2)) < (x5.length : Int) then ((wristbandref01_Rot.f k (rd x5 (wrap64 (x6 - 15))) 7).bind fun t227 => ((wristbandref01_Rot.f k (rd x5 (wrap64 (x6 - 15))) 18).bind fun t228 => ((wristbandref02_down.f k (rd x5 (wrap64 (x6 - 15))) 3).bind fun t229 => ((wristbandref01_Rot.f k (rd x5 (wrap64 (x6 - 2))) 17).bind fun t230 => ((wristbandref01_Rot.f k (rd x5 (wrap64 (x6 - 2))) 19).bind fun t231 => ((wristbandref02_down.f k (rd x5 (wrap64 (x6 - 2))) 10).bind fun t232 => (if 0 ≤ (wrap64 (x6 - 7)) then (if (wrap64 (x6 - 7)) < (x5.length : Int) then (if 0 ≤ (wrap64 (x6 - 16)) then (if (wrap64 (x6 - 16)) < (x5.length : Int) then (if x5.length < 35184372088832 then (wristbandref02_Block.l0 k x0 (x5 ++ [((((((Go.bits .xor .u32 (Go.bits .xor .u32 t230 t231) t232) + (rd x5 (wrap64 (x6 - 7)))) % 4294967296) + (Go.bits .xor .u32 (Go.bits .xor .u32 t227 t228) t229)) % 4294967296) + (rd x5 (wrap64 (x6 - 16)))) % 4294967296]) (wrap64 (x6 + 1))) else (none)) else (none)) else (none)) else (none)) else (none)))))))) else (none)) else (none)) else (none)) else (none)) else (if 0 < (x0.length : Int) then (if 1 < (x0.length : Int) then (if 2 < (x0.length : Int) then (if 3 < (x0.length : Int) then (if 4 < (x0.length : Int) then (if 5 < (x0.length : Int) then (if 6 < (x0.length : Int) then (if 7 < (x0.length : Int) then (wristbandref02_Block.l1 k x0 x5 (rd x0 0) (rd x0 1) (rd x0 2) (rd x0 3) (rd x0 4) (rd x0 5) (rd x0 6) (rd x0 7) 0) else (none)) else (none)) else (none)) else (none)) else (none)) else (none)) else (none)) else (none))
def wristbandref02_Block.l1 : Nat → List Int → List Int → Int → Int → Int → Int → Int → Int → Int → Int → Int → Option (List Int)
  | 0, _, _, _, _, _, _, _, _, _, _, _ => none
  | k + 1, x0, x5, x11, x12, x13, x14, x15, x16, x17, x18, x19 => if x19 < 64 then ((wristbandref01_Rot.f k x15 6).bind fun t257 => ((wristbandref01_Rot.f k x15 11).bind fun t258 => ((wristbandref01_Rot.f k x15 25).bind fun t259 => ((wristbandref02_constant.f x19).bind fun t260 => (if 0 ≤ x19 then (if x19 < (x5.length : Int) then ((wristbandref01_Rot.f k x11 2).bind fun t262 => ((wristbandref01_Rot.f k x11 13).bind fun t263 => ((wristbandref01_Rot.f k x11 22).bind fun t264 => (wristbandref02_Block.l1 k x0 x5 ((((((((((x18 + (Go.bits .xor .u32 (Go.bits .xor .u32 t257 t258) t259)) % 4294967296) + (Go.bits .or .u32 (Go.bits .and .u32 x15 x16) (Go.bits .and .u32 ((4294967295 - x15) % 4294967296) x17))) % 4294967296) + t260) % 4294967296) + (rd x5 x19)) % 4294967296) + (((Go.bits .xor .u32 (Go.bits .xor .u32 t262 t263) t264) + (Go.bits .or .u32 (Go.bits .or .u32 (Go.bits .and .u32 x11 x12) (Go.bits .and .u32 x11 x13)) (Go.bits .and .u32 x12 x13))) % 4294967296)) % 4294967296) x11 x12 x13 ((x14 + ((((((((x18 + (Go.bits .xor .u32 (Go.bits .xor .u32 t257 t258) t259)) % 4294967296) + (Go.bits .or .u32 (Go.bits .and .u32 x15 x16) (Go.bits .and .u32 ((4294967295 - x15) % 4294967296) x17))) % 4294967296) + t260) % 4294967296) + (rd x5 x19)) % 4294967296)) % 4294967296) x15 x16 x17 (wrap64 (x19 + 1)))))) else (none)) else (none)))))) else (if 0 < (x0.length : Int) then (if 1 < (x0.length : Int) then (if 2 < (x0.length : Int) then (if 3 < (x0.length : Int) then (if 4 < (x0.length : Int) then (if 5 < (x0.length : Int) then (if 6 < (x0.length : Int) then (if 7 < (x0.length : Int) then (some (([((rd x0 0) + x11) % 4294967296, ((rd x0 1) + x12) % 4294967296, ((rd x0 2) + x13) % 4294967296, ((rd x0 3) + x14) % 4294967296, ((rd x0 4) + x15) % 4294967296, ((rd x0 5) + x16) % 4294967296, ((rd x0 6) + x17) % 4294967296, ((rd x0 7) + x18) % 4294967296] : List Int))) else (none)) else (none)) else (none)) else (none)) else (none)) else (none)) else (none)) else (none))
end
def wristbandref02_Block.f (k : Nat) (l0 : List Int) (l1 : List Int) : Option (List Int) := (wristbandref01_Words.f k l1).bind fun t222 => (wristbandref02_Block.l0 k l0 t222 16)
theorem wristbandref02_Block.mono_l : ∀ k, (∀ y0 y1 y2, LeO (wristbandref02_Block.l0 k y0 y1 y2) (wristbandref02_Block.l0 (k + 1) y0 y1 y2)) ∧ (∀ y0 y1 y2 y3 y4 y5 y6 y7 y8 y9 y10, LeO (wristbandref02_Block.l1 k y0 y1 y2 y3 y4 y5 y6 y7 y8 y9 y10) (wristbandref02_Block.l1 (k + 1) y0 y1 y2 y3 y4 y5 y6 y7 y8 y9 y10))
  | 0 => ⟨fun _ _ _ r h => by simp [wristbandref02_Block.l0] at h, fun _ _ _ _ _ _ _ _ _ _ _ r h => by simp [wristbandref02_Block.l1] at h⟩
  | k + 1 => by
    obtain ⟨ih0, ih1⟩ := wristbandref02_Block.mono_l k
    refine ⟨?_, ?_⟩
    · intro y0 y1 y2
      unfold wristbandref02_Block.l0
      repeat' first
      | (with_reducible exact ih0 _ _ _)
      | (with_reducible exact ih1 _ _ _ _ _ _ _ _ _ _ _)
      | (with_reducible exact wristbandref01_Rot.mono _ _ _)
      | (with_reducible exact wristbandref01_Words.mono _ _)
      | (with_reducible exact wristbandref02_down.mono _ _ _)
      | (with_reducible exact LeO.refl _)
      | (with_reducible exact LeO.none _)
      | (with_reducible refine LeO.ite ?_ ?_)
      | (with_reducible refine LeO.bind ?_ (fun _ => ?_))
      | exact ih0 _ _ _
      | exact ih1 _ _ _ _ _ _ _ _ _ _ _
      | exact wristbandref01_Rot.mono _ _ _
      | exact wristbandref01_Words.mono _ _
      | exact wristbandref02_down.mono _ _ _
      | exact LeO.none _
      | refine LeO.ite ?_ ?_
      | refine LeO.bind ?_ (fun _ => ?_)
    · intro y0 y1 y2 y3 y4 y5 y6 y7 y8 y9 y10
      unfold wristbandref02_Block.l1
      repeat' first
      | (with_reducible exact ih0 _ _ _)
      | (with_reducible exact ih1 _ _ _ _ _ _ _ _ _ _ _)
      | (with_reducible exact wristbandref01_Rot.mono _ _ _)
      | (with_reducible exact wristbandref01_Words.mono _ _)
      | (with_reducible exact wristbandref02_down.mono _ _ _)
      | (with_reducible exact LeO.refl _)
      | (with_reducible exact LeO.none _)
      | (with_reducible refine LeO.ite ?_ ?_)
      | (with_reducible refine LeO.bind ?_ (fun _ => ?_))
      | exact ih0 _ _ _
      | exact ih1 _ _ _ _ _ _ _ _ _ _ _
      | exact wristbandref01_Rot.mono _ _ _
      | exact wristbandref01_Words.mono _ _
      | exact wristbandref02_down.mono _ _ _
      | exact LeO.none _
      | refine LeO.ite ?_ ?_
      | refine LeO.bind ?_ (fun _ => ?_)
theorem wristbandref02_Block.mono : ∀ a0 a1 k, LeO (wristbandref02_Block.f k a0 a1) (wristbandref02_Block.f (k + 1) a0 a1) := by
  intro a0 a1 k
  obtain ⟨ih0, ih1⟩ := wristbandref02_Block.mono_l k
  unfold wristbandref02_Block.f
  repeat' first
      | (with_reducible exact ih0 _ _ _)
      | (with_reducible exact ih1 _ _ _ _ _ _ _ _ _ _ _)
      | (with_reducible exact wristbandref01_Rot.mono _ _ _)
      | (with_reducible exact wristbandref01_Words.mono _ _)
      | (with_reducible exact wristbandref02_down.mono _ _ _)
      | (with_reducible exact LeO.refl _)
      | (with_reducible exact LeO.none _)
      | (with_reducible refine LeO.ite ?_ ?_)
      | (with_reducible refine LeO.bind ?_ (fun _ => ?_))
      | exact ih0 _ _ _
      | exact ih1 _ _ _ _ _ _ _ _ _ _ _
      | exact wristbandref01_Rot.mono _ _ _
      | exact wristbandref01_Words.mono _ _
      | exact wristbandref02_down.mono _ _ _
      | exact LeO.none _
      | refine LeO.ite ?_ ?_
      | refine LeO.bind ?_ (fun _ => ?_)
def wristbandref02_Block.T9 : Bool × List (List Nat × List Nat) := (true, [([], []), ([], []), ([], []), ([], []), ([3], [3]), ([2, 4], [2, 4]), ([5], [5]), ([1, 6], [1, 6]), ([], []), ([7, 8], [7, 8]), ([], []), ([], []), ([11], [11]), ([10, 12], [10, 12]), ([13], [13]), ([9, 14], [9, 14]), ([15], [15]), ([0, 16], [0, 16]), ([17, 17, 0, 1, 2, 3, 4, 5, 6, 7, 8, 9, 10, 11, 12, 13, 14, 15, 16, 17], [0, 2, 10, 17])])
def wristbandref02_Block.B9 : List Nat := [0, 0, 0, 0, 8, 28, 60, 126, 0, 510, 0, 0, 2048, 7168, 15360, 32766, 65534, 131071, 262143]
theorem wristbandref02_Block.tab9 : rtab .any (opsOf Tryd.f18 9) = wristbandref02_Block.T9 := by kernel_rfl
theorem wristbandref02_Block.bits9 : waitsOk wristbandref02_Block.T9.2 wristbandref02_Block.B9 = true := by kernel_rfl
def wristbandref02_Block.T10 : Bool × List (List Nat × List Nat) := (true, [([], []), ([0], [0]), ([1], [1]), ([], []), ([3], [3]), ([4], [4]), ([], []), ([6], [6]), ([7], [7]), ([], []), ([9], [9]), ([10], [10]), ([2, 0, 1, 2], [2]), ([5, 12, 0, 1, 2, 3, 4, 5, 12], [5]), ([8, 13, 0, 1, 2, 3, 4, 5, 6, 7, 8, 12, 13], [8]), ([11, 14, 0, 1, 2, 3, 4, 5, 6, 7, 8, 9, 10, 11, 12, 13, 14], [11])])
def wristbandref02_Block.B10 : List Nat := [0, 1, 3, 0, 8, 24, 0, 64, 192, 0, 512, 1536, 7, 4159, 12799, 32767]
theorem wristbandref02_Block.tab10 : rtab .any (opsOf Tryd.f18 10) = wristbandref02_Block.T10 := by kernel_rfl
theorem wristbandref02_Block.bits10 : waitsOk wristbandref02_Block.T10.2 wristbandref02_Block.B10 = true := by kernel_rfl
def wristbandref02_Block.T11 : Bool × List (List Nat × List Nat) := (true, [([], []), ([0], [0]), ([1], [1]), ([], []), ([3], [3]), ([4], [4]), ([], []), ([6], [6]), ([7], [7]), ([], []), ([9], [9]), ([10], [10]), ([2, 0, 1, 2], [2]), ([5, 12, 0, 1, 2, 3, 4, 5, 12], [5]), ([8, 13, 0, 1, 2, 3, 4, 5, 6, 7, 8, 12, 13], [8]), ([11, 14, 0, 1, 2, 3, 4, 5, 6, 7, 8, 9, 10, 11, 12, 13, 14], [11])])
def wristbandref02_Block.B11 : List Nat := [0, 1, 3, 0, 8, 24, 0, 64, 192, 0, 512, 1536, 7, 4159, 12799, 32767]
theorem wristbandref02_Block.tab11 : rtab .any (opsOf Tryd.f18 11) = wristbandref02_Block.T11 := by kernel_rfl
theorem wristbandref02_Block.bits11 : waitsOk wristbandref02_Block.T11.2 wristbandref02_Block.B11 = true := by kernel_rfl
def wristbandref02_Block.T17 : Bool × List (List Nat × List Nat) := (true, [([], []), ([], []), ([0, 1], [0, 1]), ([], []), ([2, 3], [2, 3]), ([], []), ([5], [5]), ([4, 6], [4, 6]), ([], []), ([], []), ([8, 9], [8, 9]), ([10], [10]), ([7, 11], [7, 11]), ([12, 6, 0, 1, 2, 3, 4, 5, 6, 7, 8, 9, 10, 11, 12], [12])])
def wristbandref02_Block.B17 : List Nat := [0, 0, 3, 0, 15, 0, 32, 127, 0, 0, 768, 1792, 4095, 8191]
theorem wristbandref02_Block.tab17 : rtab .any (opsOf Tryd.f18 17) = wristbandref02_Block.T17 := by kernel_rfl
theorem wristbandref02_Block.bits17 : waitsOk wristbandref02_Block.T17.2 wristbandref02_Block.B17 = true := by kernel_rfl
def wristbandref02_Block.T29 : Bool × List (List Nat × List Nat) := (true, [([], []), ([0], [0]), ([1], [1]), ([], []), ([2, 3], [2, 3]), ([], []), ([5], [5]), ([6], [6]), ([], []), ([7, 8], [7, 8]), ([], []), ([10], [10]), ([11], [11]), ([], []), ([12, 13], [12, 13]), ([], []), ([15], [15]), ([16], [16]), ([], []), ([17, 18], [17, 18]), ([], []), ([20], [20]), ([21], [21]), ([], []), ([22, 23], [22, 23]), ([], []), ([25], [25]), ([26], [26]), ([], []), ([27, 28], [27, 28]), ([], []), ([30], [30]), ([31], [31]), ([], []), ([32, 33], [32, 33]), ([], []), ([35], [35]), ([36], [36]), ([], []), ([37, 38], [37, 38]), ([4, 9, 14, 19, 24, 29, 34, 39], [4, 9, 14, 19, 24, 29, 34, 39]), ([40, 0, 1, 2, 3, 4, 5, 6, 7, 8, 9, 10, 11, 12, 13, 14, 15, 16, 17, 18, 19, 20, 21, 22, 23, 24, 25, 26, 27, 28, 29, 30, 31, 32, 33, 34, 35, 36, 37, 38, 39, 40], [40])])
def wristbandref02_Block.B29 : List Nat := [0, 1, 3, 0, 15, 0, 32, 96, 0, 480, 0, 1024, 3072, 0, 15360, 0, 32768, 98304, 0, 491520, 0, 1048576, 3145728, 0, 15728640, 0, 33554432, 100663296, 0, 503316480, 0, 1073741824, 3221225472, 0, 16106127360, 0, 34359738368, 103079215104, 0, 515396075520, 1099511627775, 2199023255551]
theorem wristbandref02_Block.tab29 : rtab .any (opsOf Tryd.f18 29) = wristbandref02_Block.T29 := by kernel_rfl
theorem wristbandref02_Block.bits29 : waitsOk wristbandref02_Block.T29.2 wristbandref02_Block.B29 = true := by kernel_rfl
set_option maxHeartbeats 8000000 in
set_option maxRecDepth 100000 in
theorem wristbandref02_Block.calls (k : Nat) (A0 : Option Addr) (c0 : Nat) (l0 : List Int) (A1 : Option Addr) (c1 : Nat) (l1 : List Int) (r : List Int) (w : World) (hr0 : Kd.C (Kd.int .u32) w A0 l0.length l0) (hc0 : l0.length ≤ c0) (hr1 : Kd.C (Kd.int .u8) w A1 l1.length l1) (hc1 : l1.length ≤ c1) (h : wristbandref02_Block.f k l0 l1 = some r) :
    Calls Tryd.prog 18 #[.slice A0 l0.length c0, .slice A1 l1.length c1] w fun e w' => ∃ v0_ : Value, e = .returned (v0_) ∧ Kd.R (Kd.int .u32) 22 w' w.heap.size (fun _ => True) v0_ r ∧ Below w.heap.size w w' := by
  have HR0 := Aside0.mk hr0
  have HC0 := Aside0.mk hc0
  clear hr0 hc0
  have HR1 := Aside0.mk hr1
  have HC1 := Aside0.mk hc1
  clear hr1 hc1
  have HB := Aside0.mk (Below.refl w.heap.size w)
  have H : ((wristbandref01_Words.f k l1).bind fun t222 => (wristbandref02_Block.l0 k l0 t222 16)) = some r := h
  clear h
  replace H := Option.bind_eq_some_iff.mp H
  obtain ⟨t222, A30, H⟩ := H
  replace H : (wristbandref02_Block.l0 k l0 t222 16) = some r := H
  have A3 := Aside0.mk A30
  clear A30
  have H' := Aside0.mk H
  clear H
  go_enter Tryd.func18, Tryd.ntmps18
  go_wp2_with (first | ((with_reducible refine gate_callee (f := 48) rfl ?_); refine goesL_ (some 27) rfl rfl Tryd.func48 (by kernel_rfl) rfl #[.slice A1 l1.length c1] rfl (by (try simp only [List.map_toArray, List.map_cons, List.map_nil]); first | done | rfl | (simp only [List.length_drop, List.length_take]; rfl)) ?_; (with_reducible refine (wristbandref01_Words.calls k _ _ l1 t222 _ ?side1 ?side2 A3.out).mono ?_); (case side1 => repeat (first | exact HR1.out | (with_reducible refine Kd.C_alloc ?_ _) | (with_reducible refine Kd.C_drewN ?_ _) | (with_reducible refine Kd.C_drew ?_))); (case side2 => exact HC1.out); rintro e w4 ⟨v223, rfl, ho0, hb⟩; refine ⟨_, rfl, ?_⟩; have n0_ := Aside0.mk (Kd.R_lower ho0 (below_size (by repeat (first | (with_reducible first | exact HB.out | apply below_alloc | apply pw_below_drewN | apply below_drew1) | exact HB.out)))); have n1_ := Aside0.mk (below_step (by repeat (first | (with_reducible first | exact HB.out | apply below_alloc | apply pw_below_drewN | apply below_drew1) | exact HB.out)) hb); clear HB; have HO224 := n0_; have HB := n1_; clear n0_ n1_; (try clear hb); (try clear hb2); (try clear hk); (try clear hi); (try clear ho0)))
  go_loopg [5, 6] k (fun kq v5 v6 w' => ∃ (x5_1 : List Int) (x6_1 : Int), v6 = .int .i64 x6_1 ∧ Aside0 (wristbandref02_Block.l0 kq l0 x5_1 x6_1 = some r) ∧ Aside0 (kq ≤ k) ∧ Aside0 (Kd.R (Kd.int .u32) 22 w' w.heap.size (fun _ => True) v5 x5_1) ∧ Aside0 (Below w.heap.size w w'))
  case atStart => exact ⟨(t222), (16), (by first | rfl | (simp; done) | (simp [*]; done)), H', ⟨Nat.le_refl _⟩, ⟨by (with_reducible repeat (first | apply Kd.R_alloc | apply Kd.R_drewN | apply Kd.R_drew)); exact HO224.out⟩, ⟨by repeat (first | (with_reducible first | exact HB.out | apply below_alloc | apply pw_below_drewN | apply below_drew1) | exact HB.out)⟩⟩
  case round =>
    clear H'
    try clear c1
    try clear p2
    try clear c4
    obtain ⟨x5_1, x6_1, rfl, HA, HK1, HO_5, HB⟩ := hrel
    cases gk with
    | zero => exact absurd HA.out (by simp [wristbandref02_Block.l0])
    | succ k1 =>
      have H := HA.out
      clear HA
      simp only [wristbandref02_Block.l0] at H
      by_cases c5 : x6_1 < 64
      · rw [if_pos c5] at H
        have c5b0 : decide (x6_1 < 64) = true := decide_eq_true c5
        clear c5
        obtain ⟨ji6, hji6⟩ : ∃ j_ : Int, (wrap64 (x6_1 - 15)) = j_ := ⟨_, rfl⟩
        replace H : (if 0 ≤ (ji6) then (if (ji6) < (x5_1.length : Int) then (if 0 ≤ (wrap64 (x6_1 - 2)) then (if (wrap64 (x6_1 - 2)) < (x5_1.length : Int) then ((wristbandref01_Rot.f k1 (rd x5_1 (ji6)) 7).bind fun t227 => ((wristbandref01_Rot.f k1 (rd x5_1 (ji6)) 18).bind fun t228 => ((wristbandref02_down.f k1 (rd x5_1 (ji6)) 3).bind fun t229 => ((wristbandref01_Rot.f k1 (rd x5_1 (wrap64 (x6_1 - 2))) 17).bind fun t230 => ((wristbandref01_Rot.f k1 (rd x5_1 (wrap64 (x6_1 - 2))) 19).bind fun t231 => ((wristbandref02_down.f k1 (rd x5_1 (wrap64 (x6_1 - 2))) 10).bind fun t232 => (if 0 ≤ (wrap64 (x6_1 - 7)) then (if (wrap64 (x6_1 - 7)) < (x5_1.length : Int) then (if 0 ≤ (wrap64 (x6_1 - 16)) then (if (wrap64 (x6_1 - 16)) < (x5_1.length : Int) then (if x5_1.length < 35184372088832 then (wristbandref02_Block.l0 k1 l0 (x5_1 ++ [((((((Go.bits .xor .u32 (Go.bits .xor .u32 t230 t231) t232) + (rd x5_1 (wrap64 (x6_1 - 7)))) % 4294967296) + (Go.bits .xor .u32 (Go.bits .xor .u32 t227 t228) t229)) % 4294967296) + (rd x5_1 (wrap64 (x6_1 - 16)))) % 4294967296]) (wrap64 (x6_1 + 1))) else (none)) else (none)) else (none)) else (none)) else (none)))))))) else (none)) else (none)) else (none)) else (none)) = some r := by first | (rw [hji6] at H; exact H) | (simp only [hji6] at H ⊢; exact H)
        have hji6w : (IntKind.i64.wrap (x6_1 - 15)) = ji6 := (i64_w _).trans hji6
        by_cases c7 : 0 ≤ (ji6)
        · rw [if_pos c7] at H
          have c7b0 : decide (0 ≤ (ji6)) = true := decide_eq_true c7
          clear c7
          by_cases c8 : (ji6) < (x5_1.length : Int)
          · rw [if_pos c8] at H
            have c8b0 : decide ((ji6) < (x5_1.length : Int)) = true := decide_eq_true c8
            clear c8
            obtain ⟨ji9, hji9⟩ : ∃ j_ : Int, (wrap64 (x6_1 - 2)) = j_ := ⟨_, rfl⟩
            replace H : (if 0 ≤ (ji9) then (if (ji9) < (x5_1.length : Int) then ((wristbandref01_Rot.f k1 (rd x5_1 (ji6)) 7).bind fun t227 => ((wristbandref01_Rot.f k1 (rd x5_1 (ji6)) 18).bind fun t228 => ((wristbandref02_down.f k1 (rd x5_1 (ji6)) 3).bind fun t229 => ((wristbandref01_Rot.f k1 (rd x5_1 (ji9)) 17).bind fun t230 => ((wristbandref01_Rot.f k1 (rd x5_1 (ji9)) 19).bind fun t231 => ((wristbandref02_down.f k1 (rd x5_1 (ji9)) 10).bind fun t232 => (if 0 ≤ (wrap64 (x6_1 - 7)) then (if (wrap64 (x6_1 - 7)) < (x5_1.length : Int) then (if 0 ≤ (wrap64 (x6_1 - 16)) then (if (wrap64 (x6_1 - 16)) < (x5_1.length : Int) then (if x5_1.length < 35184372088832 then (wristbandref02_Block.l0 k1 l0 (x5_1 ++ [((((((Go.bits .xor .u32 (Go.bits .xor .u32 t230 t231) t232) + (rd x5_1 (wrap64 (x6_1 - 7)))) % 4294967296) + (Go.bits .xor .u32 (Go.bits .xor .u32 t227 t228) t229)) % 4294967296) + (rd x5_1 (wrap64 (x6_1 - 16)))) % 4294967296]) (wrap64 (x6_1 + 1))) else (none)) else (none)) else (none)) else (none)) else (none)))))))) else (none)) else (none)) = some r := by first | (rw [hji9] at H; exact H) | (simp only [hji9] at H ⊢; exact H)
            have hji9w : (IntKind.i64.wrap (x6_1 - 2)) = ji9 := (i64_w _).trans hji9
            by_cases c10 : 0 ≤ (ji9)
            · rw [if_pos c10] at H
              have c10b0 : decide (0 ≤ (ji9)) = true := decide_eq_true c10
              clear c10
              by_cases c11 : (ji9) < (x5_1.length : Int)
              · rw [if_pos c11] at H
                have c11b0 : decide ((ji9) < (x5_1.length : Int)) = true := decide_eq_true c11
                clear c11
                replace H := Option.bind_eq_some_iff.mp H
                obtain ⟨t227, A120, H⟩ := H
                replace H : ((wristbandref01_Rot.f k1 (rd x5_1 (ji6)) 18).bind fun t228 => ((wristbandref02_down.f k1 (rd x5_1 (ji6)) 3).bind fun t229 => ((wristbandref01_Rot.f k1 (rd x5_1 (ji9)) 17).bind fun t230 => ((wristbandref01_Rot.f k1 (rd x5_1 (ji9)) 19).bind fun t231 => ((wristbandref02_down.f k1 (rd x5_1 (ji9)) 10).bind fun t232 => (if 0 ≤ (wrap64 (x6_1 - 7)) then (if (wrap64 (x6_1 - 7)) < (x5_1.length : Int) then (if 0 ≤ (wrap64 (x6_1 - 16)) then (if (wrap64 (x6_1 - 16)) < (x5_1.length : Int) then (if x5_1.length < 35184372088832 then (wristbandref02_Block.l0 k1 l0 (x5_1 ++ [((((((Go.bits .xor .u32 (Go.bits .xor .u32 t230 t231) t232) + (rd x5_1 (wrap64 (x6_1 - 7)))) % 4294967296) + (Go.bits .xor .u32 (Go.bits .xor .u32 t227 t228) t229)) % 4294967296) + (rd x5_1 (wrap64 (x6_1 - 16)))) % 4294967296]) (wrap64 (x6_1 + 1))) else (none)) else (none)) else (none)) else (none)) else (none))))))) = some r := H
                have A12 := Aside0.mk A120
                clear A120
                replace H := Option.bind_eq_some_iff.mp H
                obtain ⟨t228, A130, H⟩ := H
                replace H : ((wristbandref02_down.f k1 (rd x5_1 (ji6)) 3).bind fun t229 => ((wristbandref01_Rot.f k1 (rd x5_1 (ji9)) 17).bind fun t230 => ((wristbandref01_Rot.f k1 (rd x5_1 (ji9)) 19).bind fun t231 => ((wristbandref02_down.f k1 (rd x5_1 (ji9)) 10).bind fun t232 => (if 0 ≤ (wrap64 (x6_1 - 7)) then (if (wrap64 (x6_1 - 7)) < (x5_1.length : Int) then (if 0 ≤ (wrap64 (x6_1 - 16)) then (if (wrap64 (x6_1 - 16)) < (x5_1.length : Int) then (if x5_1.length < 35184372088832 then (wristbandref02_Block.l0 k1 l0 (x5_1 ++ [((((((Go.bits .xor .u32 (Go.bits .xor .u32 t230 t231) t232) + (rd x5_1 (wrap64 (x6_1 - 7)))) % 4294967296) + (Go.bits .xor .u32 (Go.bits .xor .u32 t227 t228) t229)) % 4294967296) + (rd x5_1 (wrap64 (x6_1 - 16)))) % 4294967296]) (wrap64 (x6_1 + 1))) else (none)) else (none)) else (none)) else (none)) else (none)))))) = some r := H
                have A13 := Aside0.mk A130
                clear A130
                replace H := Option.bind_eq_some_iff.mp H
                obtain ⟨t229, A140, H⟩ := H
                replace H : ((wristbandref01_Rot.f k1 (rd x5_1 (ji9)) 17).bind fun t230 => ((wristbandref01_Rot.f k1 (rd x5_1 (ji9)) 19).bind fun t231 => ((wristbandref02_down.f k1 (rd x5_1 (ji9)) 10).bind fun t232 => (if 0 ≤ (wrap64 (x6_1 - 7)) then (if (wrap64 (x6_1 - 7)) < (x5_1.length : Int) then (if 0 ≤ (wrap64 (x6_1 - 16)) then (if (wrap64 (x6_1 - 16)) < (x5_1.length : Int) then (if x5_1.length < 35184372088832 then (wristbandref02_Block.l0 k1 l0 (x5_1 ++ [((((((Go.bits .xor .u32 (Go.bits .xor .u32 t230 t231) t232) + (rd x5_1 (wrap64 (x6_1 - 7)))) % 4294967296) + (Go.bits .xor .u32 (Go.bits .xor .u32 t227 t228) t229)) % 4294967296) + (rd x5_1 (wrap64 (x6_1 - 16)))) % 4294967296]) (wrap64 (x6_1 + 1))) else (none)) else (none)) else (none)) else (none)) else (none))))) = some r := H
                have A14 := Aside0.mk A140
                clear A140
                replace H := Option.bind_eq_some_iff.mp H
                obtain ⟨t230, A150, H⟩ := H
                replace H : ((wristbandref01_Rot.f k1 (rd x5_1 (ji9)) 19).bind fun t231 => ((wristbandref02_down.f k1 (rd x5_1 (ji9)) 10).bind fun t232 => (if 0 ≤ (wrap64 (x6_1 - 7)) then (if (wrap64 (x6_1 - 7)) < (x5_1.length : Int) then (if 0 ≤ (wrap64 (x6_1 - 16)) then (if (wrap64 (x6_1 - 16)) < (x5_1.length : Int) then (if x5_1.length < 35184372088832 then (wristbandref02_Block.l0 k1 l0 (x5_1 ++ [((((((Go.bits .xor .u32 (Go.bits .xor .u32 t230 t231) t232) + (rd x5_1 (wrap64 (x6_1 - 7)))) % 4294967296) + (Go.bits .xor .u32 (Go.bits .xor .u32 t227 t228) t229)) % 4294967296) + (rd x5_1 (wrap64 (x6_1 - 16)))) % 4294967296]) (wrap64 (x6_1 + 1))) else (none)) else (none)) else (none)) else (none)) else (none)))) = some r := H
                have A15 := Aside0.mk A150
                clear A150
                replace H := Option.bind_eq_some_iff.mp H
                obtain ⟨t231, A160, H⟩ := H
                replace H : ((wristbandref02_down.f k1 (rd x5_1 (ji9)) 10).bind fun t232 => (if 0 ≤ (wrap64 (x6_1 - 7)) then (if (wrap64 (x6_1 - 7)) < (x5_1.length : Int) then (if 0 ≤ (wrap64 (x6_1 - 16)) then (if (wrap64 (x6_1 - 16)) < (x5_1.length : Int) then (if x5_1.length < 35184372088832 then (wristbandref02_Block.l0 k1 l0 (x5_1 ++ [((((((Go.bits .xor .u32 (Go.bits .xor .u32 t230 t231) t232) + (rd x5_1 (wrap64 (x6_1 - 7)))) % 4294967296) + (Go.bits .xor .u32 (Go.bits .xor .u32 t227 t228) t229)) % 4294967296) + (rd x5_1 (wrap64 (x6_1 - 16)))) % 4294967296]) (wrap64 (x6_1 + 1))) else (none)) else (none)) else (none)) else (none)) else (none))) = some r := H
                have A16 := Aside0.mk A160
                clear A160
                replace H := Option.bind_eq_some_iff.mp H
                obtain ⟨t232, A170, H⟩ := H
                replace H : (if 0 ≤ (wrap64 (x6_1 - 7)) then (if (wrap64 (x6_1 - 7)) < (x5_1.length : Int) then (if 0 ≤ (wrap64 (x6_1 - 16)) then (if (wrap64 (x6_1 - 16)) < (x5_1.length : Int) then (if x5_1.length < 35184372088832 then (wristbandref02_Block.l0 k1 l0 (x5_1 ++ [((((((Go.bits .xor .u32 (Go.bits .xor .u32 t230 t231) t232) + (rd x5_1 (wrap64 (x6_1 - 7)))) % 4294967296) + (Go.bits .xor .u32 (Go.bits .xor .u32 t227 t228) t229)) % 4294967296) + (rd x5_1 (wrap64 (x6_1 - 16)))) % 4294967296]) (wrap64 (x6_1 + 1))) else (none)) else (none)) else (none)) else (none)) else (none)) = some r := H
                have A17 := Aside0.mk A170
                clear A170
                obtain ⟨ji18, hji18⟩ : ∃ j_ : Int, (wrap64 (x6_1 - 7)) = j_ := ⟨_, rfl⟩
                replace H : (if 0 ≤ (ji18) then (if (ji18) < (x5_1.length : Int) then (if 0 ≤ (wrap64 (x6_1 - 16)) then (if (wrap64 (x6_1 - 16)) < (x5_1.length : Int) then (if x5_1.length < 35184372088832 then (wristbandref02_Block.l0 k1 l0 (x5_1 ++ [((((((Go.bits .xor .u32 (Go.bits .xor .u32 t230 t231) t232) + (rd x5_1 (ji18))) % 4294967296) + (Go.bits .xor .u32 (Go.bits .xor .u32 t227 t228) t229)) % 4294967296) + (rd x5_1 (wrap64 (x6_1 - 16)))) % 4294967296]) (wrap64 (x6_1 + 1))) else (none)) else (none)) else (none)) else (none)) else (none)) = some r := by first | (rw [hji18] at H; exact H) | (simp only [hji18] at H ⊢; exact H)
                (try rw [hji18] at A12)
                (try rw [hji18] at A13)
                (try rw [hji18] at A14)
                (try rw [hji18] at A15)
                (try rw [hji18] at A16)
                (try rw [hji18] at A17)
                have hji18w : (IntKind.i64.wrap (x6_1 - 7)) = ji18 := (i64_w _).trans hji18
                by_cases c19 : 0 ≤ (ji18)
                · rw [if_pos c19] at H
                  have c19b0 : decide (0 ≤ (ji18)) = true := decide_eq_true c19
                  clear c19
                  by_cases c20 : (ji18) < (x5_1.length : Int)
                  · rw [if_pos c20] at H
                    have c20b0 : decide ((ji18) < (x5_1.length : Int)) = true := decide_eq_true c20
                    clear c20
                    obtain ⟨ji21, hji21⟩ : ∃ j_ : Int, (wrap64 (x6_1 - 16)) = j_ := ⟨_, rfl⟩
                    replace H : (if 0 ≤ (ji21) then (if (ji21) < (x5_1.length : Int) then (if x5_1.length < 35184372088832 then (wristbandref02_Block.l0 k1 l0 (x5_1 ++ [((((((Go.bits .xor .u32 (Go.bits .xor .u32 t230 t231) t232) + (rd x5_1 (ji18))) % 4294967296) + (Go.bits .xor .u32 (Go.bits .xor .u32 t227 t228) t229)) % 4294967296) + (rd x5_1 (ji21))) % 4294967296]) (wrap64 (x6_1 + 1))) else (none)) else (none)) else (none)) = some r := by first | (rw [hji21] at H; exact H) | (simp only [hji21] at H ⊢; exact H)
                    (try rw [hji21] at A12)
                    (try rw [hji21] at A13)
                    (try rw [hji21] at A14)
                    (try rw [hji21] at A15)
                    (try rw [hji21] at A16)
                    (try rw [hji21] at A17)
                    have hji21w : (IntKind.i64.wrap (x6_1 - 16)) = ji21 := (i64_w _).trans hji21
                    by_cases c22 : 0 ≤ (ji21)
                    · rw [if_pos c22] at H
                      have c22b0 : decide (0 ≤ (ji21)) = true := decide_eq_true c22
                      clear c22
                      by_cases c23 : (ji21) < (x5_1.length : Int)
                      · rw [if_pos c23] at H
                        have c23b0 : decide ((ji21) < (x5_1.length : Int)) = true := decide_eq_true c23
                        clear c23
                        by_cases c24 : x5_1.length < 35184372088832
                        · rw [if_pos c24] at H
                          have LMc24 := Aside0.mk c24
                          clear c24
                          obtain ⟨y235, hy235⟩ : ∃ y_ : List Int, y_ = (x5_1 ++ [((((((Go.bits .xor .u32 (Go.bits .xor .u32 t230 t231) t232) + (rd x5_1 (ji18))) % 4294967296) + (Go.bits .xor .u32 (Go.bits .xor .u32 t227 t228) t229)) % 4294967296) + (rd x5_1 (ji21))) % 4294967296]) := ⟨_, rfl⟩
                          replace H : (wristbandref02_Block.l0 k1 l0 y235 (wrap64 (x6_1 + 1))) = some r := by first | (rw [hy235]; with_reducible exact H) | (have H2_ := (Option.bind_some _ _).symm.trans H; rw [hy235]; with_reducible exact H2_) | (have H2_ := (Option.bind_some _ _).symm.trans H; with_reducible exact H2_) | with_reducible exact H | (rw [hy235]; exact H) | exact H
                          have Ny235 := Aside0.mk hy235
                          clear hy235
                          have H' := Aside0.mk H
                          clear H
                          obtain ⟨Ao25, co25, eo25⟩ := Kd.R_slice HO_5.out
                          subst eo25
                          have p225 : 0 ≤ ((ji6) : Int) := of_decide_eq_true (by first | (with_reducible assumption) | assumption)
                          have q225 : (ji6) < (x5_1.length : Int) := of_decide_eq_true (by first | (with_reducible assumption) | assumption)
                          obtain ⟨ad225, e225, hx225_0⟩ := Kd.at_int (Kd.R_reads' HO_5.out).2.2 (ji6) p225 q225
                          cases e225
                          replace p225 := eq_true p225
                          replace q225 := eq_true q225
                          have p226 : 0 ≤ ((ji9) : Int) := of_decide_eq_true (by first | (with_reducible assumption) | assumption)
                          have q226 : (ji9) < (x5_1.length : Int) := of_decide_eq_true (by first | (with_reducible assumption) | assumption)
                          obtain ⟨ad226, e226, hx226_0⟩ := Kd.at_int (Kd.R_reads' HO_5.out).2.2 (ji9) p226 q226
                          obtain rfl : ad225 = ad226 := (by injection e226)
                          replace p226 := eq_true p226
                          replace q226 := eq_true q226
                          try go_wp2_with (first | ((with_reducible refine gate_callee (f := 49) rfl ?_); refine goesL_ (some 43) rfl rfl Tryd.func49 (by kernel_rfl) rfl #[.int .u32 (rd x5_1 (ji6)), .int .i64 7] rfl (by (try simp only [List.map_toArray, List.map_cons, List.map_nil]); first | done | (simp only [hji6]; rfl) | rfl | (simp only [List.length_drop, List.length_take]; rfl)) ?_; (with_reducible refine (wristbandref01_Rot.calls k1 (rd x5_1 (ji6)) 7 t227 _ A12.out).mono ?_); rintro e w' ⟨rfl, ⟨nd, rfl⟩⟩; refine ⟨_, rfl, ?_⟩) | ((with_reducible refine gate_callee (f := 49) rfl ?_); refine goesL_ (some 45) rfl rfl Tryd.func49 (by kernel_rfl) rfl #[.int .u32 (rd x5_1 (ji6)), .int .i64 18] rfl (by (try simp only [List.map_toArray, List.map_cons, List.map_nil]); first | done | (simp only [hji6]; rfl) | rfl | (simp only [List.length_drop, List.length_take]; rfl)) ?_; (with_reducible refine (wristbandref01_Rot.calls k1 (rd x5_1 (ji6)) 18 t228 _ A13.out).mono ?_); rintro e w' ⟨rfl, ⟨nd, rfl⟩⟩; refine ⟨_, rfl, ?_⟩) | ((with_reducible refine gate_callee (f := 50) rfl ?_); refine goesL_ (some 48) rfl rfl Tryd.func50 (by kernel_rfl) rfl #[.int .u32 (rd x5_1 (ji6)), .int .i64 3] rfl (by (try simp only [List.map_toArray, List.map_cons, List.map_nil]); first | done | (simp only [hji6]; rfl) | rfl | (simp only [List.length_drop, List.length_take]; rfl)) ?_; (with_reducible refine (wristbandref02_down.calls k1 (rd x5_1 (ji6)) 3 t229 _ A14.out).mono ?_); rintro e w' ⟨rfl, ⟨nd, rfl⟩⟩; refine ⟨_, rfl, ?_⟩) | ((with_reducible refine gate_callee (f := 49) rfl ?_); refine goesL_ (some 51) rfl rfl Tryd.func49 (by kernel_rfl) rfl #[.int .u32 (rd x5_1 (ji9)), .int .i64 17] rfl (by (try simp only [List.map_toArray, List.map_cons, List.map_nil]); first | done | (simp only [hji9]; rfl) | rfl | (simp only [List.length_drop, List.length_take]; rfl)) ?_; (with_reducible refine (wristbandref01_Rot.calls k1 (rd x5_1 (ji9)) 17 t230 _ A15.out).mono ?_); rintro e w' ⟨rfl, ⟨nd, rfl⟩⟩; refine ⟨_, rfl, ?_⟩) | ((with_reducible refine gate_callee (f := 49) rfl ?_); refine goesL_ (some 53) rfl rfl Tryd.func49 (by kernel_rfl) rfl #[.int .u32 (rd x5_1 (ji9)), .int .i64 19] rfl (by (try simp only [List.map_toArray, List.map_cons, List.map_nil]); first | done | (simp only [hji9]; rfl) | rfl | (simp only [List.length_drop, List.length_take]; rfl)) ?_; (with_reducible refine (wristbandref01_Rot.calls k1 (rd x5_1 (ji9)) 19 t231 _ A16.out).mono ?_); rintro e w' ⟨rfl, ⟨nd, rfl⟩⟩; refine ⟨_, rfl, ?_⟩) | ((with_reducible refine gate_callee (f := 50) rfl ?_); refine goesL_ (some 56) rfl rfl Tryd.func50 (by kernel_rfl) rfl #[.int .u32 (rd x5_1 (ji9)), .int .i64 10] rfl (by (try simp only [List.map_toArray, List.map_cons, List.map_nil]); first | done | (simp only [hji9]; rfl) | rfl | (simp only [List.length_drop, List.length_take]; rfl)) ?_; (with_reducible refine (wristbandref02_down.calls k1 (rd x5_1 (ji9)) 10 t232 _ A17.out).mono ?_); rintro e w' ⟨rfl, ⟨nd, rfl⟩⟩; refine ⟨_, rfl, ?_⟩))
                          (try (rw [drewN_self wr]; generalize hq_ : World.drewN wr _ = wr; have n0_ : Aside0 (Kd.R (Kd.int .u32) 22 wr w.heap.size (fun _ => True) (.slice (some ad225) x5_1.length co25) x5_1) := ⟨by rw [← hq_]; exact (by (with_reducible repeat (first | apply Kd.R_alloc | apply Kd.R_drewN | apply Kd.R_drew)); exact HO_5.out)⟩; have n1_ : Aside0 (Below w.heap.size w wr) := ⟨by rw [← hq_]; exact (by repeat (first | (with_reducible first | exact HB.out | apply below_alloc | apply pw_below_drewN | apply below_drew1) | exact HB.out))⟩; clear HO_5 HB hq_; have HO_5 := n0_; have HB := n1_; clear n0_ n1_))
                          have n0_ := Aside0.mk (Kd.R_drew HO_5.out)
                          have n1_ := Aside0.mk (below_drew1 HB.out)
                          clear HO_5
                          clear HB
                          have HO_5 := n0_
                          have HB := n1_
                          clear n0_ n1_
                          have p233 : 0 ≤ ((ji18) : Int) := of_decide_eq_true (by first | (with_reducible assumption) | assumption)
                          have q233 : (ji18) < (x5_1.length : Int) := of_decide_eq_true (by first | (with_reducible assumption) | assumption)
                          obtain ⟨ad233, e233, hx233_0⟩ := Kd.at_int (Kd.R_reads' HO_5.out).2.2 (ji18) p233 q233
                          obtain rfl : ad225 = ad233 := (by injection e233)
                          replace p233 := eq_true p233
                          replace q233 := eq_true q233
                          have p234 : 0 ≤ ((ji21) : Int) := of_decide_eq_true (by first | (with_reducible assumption) | assumption)
                          have q234 : (ji21) < (x5_1.length : Int) := of_decide_eq_true (by first | (with_reducible assumption) | assumption)
                          obtain ⟨ad234, e234, hx234_0⟩ := Kd.at_int (Kd.R_reads' HO_5.out).2.2 (ji21) p234 q234
                          obtain rfl : ad225 = ad234 := (by injection e234)
                          replace p234 := eq_true p234
                          replace q234 := eq_true q234
                          refine start_ (n := 19) (S := fun w' => w'.cell? (ad225.add ((ji18)).toNat) = some (.int .u32 (rd x5_1 (ji18))) ∧ w'.cell? (ad225.add ((ji21)).toNat) = some (.int .u32 (rd x5_1 (ji21)))) (ds := [16, 17]) #[false, false, false, false, false, false, false, false, false, false, false, false, false, false, false, false, false, false, false] (by kernel_rfl) rfl rfl ⟨hx233_0, hx234_0⟩ (fun hHeld => ?_); refine with_tabW wristbandref02_Block.tab9 wristbandref02_Block.bits9 (fun HT_ HW_ => ?_)
                          generalize wr.drew = w26 at HO_5 HB hx233_0 hx234_0 hHeld ⊢
                          refine pure_ (i := 0) (N := some 58) (v := ?_) (a' := ?_) #[true, false, false, false, false, false, false, false, false, false, false, false, false, false, false, false, false, false, false] rfl rfl (any_of HT_.out (by kernel_rfl)) (fun _ _ _ h => h) (Or.inl ⟨by rfl, ?_⟩) ?_ ?_
                          rotate_left
                          · intro w'
                            go_simp
                            with_reducible rfl
                          rotate_left
                          · simp only [Act.put, List.setIfInBounds_toArray, List.set_cons_zero, List.set_cons_succ, i64_w, i32_w]
                            rfl
                          refine pure_ (i := 1) (N := some 59) (v := ?_) (a' := ?_) #[true, true, false, false, false, false, false, false, false, false, false, false, false, false, false, false, false, false, false] rfl rfl (any_of HT_.out (by kernel_rfl)) (fun _ _ _ h => h) (Or.inl ⟨by rfl, ?_⟩) ?_ ?_
                          rotate_left
                          · intro w'
                            go_simp
                            with_reducible rfl
                          rotate_left
                          · simp only [Act.put, List.setIfInBounds_toArray, List.set_cons_zero, List.set_cons_succ, i64_w, i32_w]
                            rfl
                          refine pure_ (i := 2) (N := some 60) (v := ?_) (a' := ?_) #[true, true, true, false, false, false, false, false, false, false, false, false, false, false, false, false, false, false, false] rfl rfl (any_of HT_.out (by kernel_rfl)) (fun _ _ _ h => h) (Or.inl ⟨by rfl, ?_⟩) ?_ ?_
                          rotate_left
                          · intro w'
                            go_simp
                            with_reducible rfl
                          rotate_left
                          · simp only [Act.put, List.setIfInBounds_toArray, List.set_cons_zero, List.set_cons_succ, i64_w, i32_w]
                            rfl
                          refine pure_ (i := 3) (N := some 61) (v := ?_) (a' := ?_) #[true, true, true, true, false, false, false, false, false, false, false, false, false, false, false, false, false, false, false] rfl rfl (any_of HT_.out (by kernel_rfl)) (fun _ _ _ h => h) (Or.inl ⟨by rfl, ?_⟩) ?_ ?_
                          rotate_left
                          · intro w'
                            go_simp
                            with_reducible rfl
                          rotate_left
                          · simp only [Act.put, List.setIfInBounds_toArray, List.set_cons_zero, List.set_cons_succ, i64_w, i32_w]
                            rfl
                          refine pure_ (i := 4) (N := some 62) (v := ?_) (a' := ?_) #[true, true, true, true, true, false, false, false, false, false, false, false, false, false, false, false, false, false, false] rfl rfl (any_of HT_.out (by kernel_rfl)) (fun _ _ _ h => h) (Or.inl ⟨by rfl, ?_⟩) ?_ ?_
                          rotate_left
                          · intro w'
                            go_simp
                            with_reducible rfl
                          rotate_left
                          · simp only [Act.put, List.setIfInBounds_toArray, List.set_cons_zero, List.set_cons_succ, i64_w, i32_w]
                            rfl
                          refine pure_ (i := 5) (N := some 63) (v := ?_) (a' := ?_) #[true, true, true, true, true, true, false, false, false, false, false, false, false, false, false, false, false, false, false] rfl rfl (any_of HT_.out (by kernel_rfl)) (fun _ _ _ h => h) (Or.inl ⟨by rfl, ?_⟩) ?_ ?_
                          rotate_left
                          · intro w'
                            go_simp
                            with_reducible rfl
                          rotate_left
                          · simp only [Act.put, List.setIfInBounds_toArray, List.set_cons_zero, List.set_cons_succ, i64_w, i32_w]
                            rfl
                          refine pure_ (i := 8) (N := some 66) (v := ?_) (a' := ?_) #[true, true, true, true, true, true, false, false, true, false, false, false, false, false, false, false, false, false, false] rfl rfl (any_of HT_.out (by kernel_rfl)) (fun _ _ _ h => h) (Or.inl ⟨by rfl, ?_⟩) ?_ ?_
                          rotate_left
                          · intro w'
                            go_simp
                            with_reducible rfl
                          rotate_left
                          · simp only [Act.put, List.setIfInBounds_toArray, List.set_cons_zero, List.set_cons_succ, i64_w, i32_w]
                            rfl
                          refine pure_ (i := 10) (N := some 68) (v := ?_) (a' := ?_) #[true, true, true, true, true, true, false, false, true, false, true, false, false, false, false, false, false, false, false] rfl rfl (any_of HT_.out (by kernel_rfl)) (fun _ _ _ h => h) (Or.inl ⟨by rfl, ?_⟩) ?_ ?_
                          rotate_left
                          · intro w'
                            go_simp
                            with_reducible rfl
                          rotate_left
                          · simp only [Act.put, List.setIfInBounds_toArray, List.set_cons_zero, List.set_cons_succ, i64_w, i32_w]
                            rfl
                          refine pure_ (i := 11) (N := some 69) (v := ?_) (a' := ?_) #[true, true, true, true, true, true, false, false, true, false, true, true, false, false, false, false, false, false, false] rfl rfl (any_of HT_.out (by kernel_rfl)) (fun _ _ _ h => h) (Or.inl ⟨by rfl, ?_⟩) ?_ ?_
                          rotate_left
                          · intro w'
                            go_simp
                            with_reducible rfl
                          rotate_left
                          · simp only [Act.put, List.setIfInBounds_toArray, List.set_cons_zero, List.set_cons_succ, i64_w, i32_w]
                            rfl
                          refine pure_ (i := 12) (N := some 70) (v := ?_) (a' := ?_) #[true, true, true, true, true, true, false, false, true, false, true, true, true, false, false, false, false, false, false] rfl rfl (any_of HT_.out (by kernel_rfl)) (fun _ _ _ h => h) (Or.inl ⟨by rfl, ?_⟩) ?_ ?_
                          rotate_left
                          · intro w'
                            go_simp
                            with_reducible rfl
                          rotate_left
                          · simp only [Act.put, List.setIfInBounds_toArray, List.set_cons_zero, List.set_cons_succ, i64_w, i32_w]
                            rfl
                          refine pure_ (i := 13) (N := some 71) (v := ?_) (a' := ?_) #[true, true, true, true, true, true, false, false, true, false, true, true, true, true, false, false, false, false, false] rfl rfl (any_of HT_.out (by kernel_rfl)) (fun _ _ _ h => h) (Or.inl ⟨by rfl, ?_⟩) ?_ ?_
                          rotate_left
                          · intro w'
                            go_simp
                            with_reducible rfl
                          rotate_left
                          · simp only [Act.put, List.setIfInBounds_toArray, List.set_cons_zero, List.set_cons_succ, i64_w, i32_w]
                            rfl
                          refine take_ (i := 6) (N := some 64) (v := ?_) (a' := ?_) #[true, true, true, true, true, true, true, false, true, false, true, true, true, true, false, false, false, false, false] rfl rfl (take_ofW HT_.out HW_.out (by kernel_rfl)) (fun _ _ _ h => h) (Or.inl ⟨by rfl, ?_⟩) hHeld ?_ ?_
                          rotate_left
                          · rintro w' ⟨s0, s1⟩
                            go_simp
                            with_reducible rfl
                          rotate_left
                          · simp only [Act.put, List.setIfInBounds_toArray, List.set_cons_zero, List.set_cons_succ, i64_w, i32_w]
                            rfl
                          refine pure_ (i := 7) (N := some 65) (v := ?_) (a' := ?_) #[true, true, true, true, true, true, true, true, true, false, true, true, true, true, false, false, false, false, false] rfl rfl (any_of HT_.out (by kernel_rfl)) (fun _ _ _ h => h) (Or.inl ⟨by rfl, ?_⟩) ?_ ?_
                          rotate_left
                          · intro w'
                            go_simp
                            with_reducible rfl
                          rotate_left
                          · simp only [Act.put, List.setIfInBounds_toArray, List.set_cons_zero, List.set_cons_succ, i64_w, i32_w]
                            rfl
                          refine pure_ (i := 9) (N := some 67) (v := ?_) (a' := ?_) #[true, true, true, true, true, true, true, true, true, true, true, true, true, true, false, false, false, false, false] rfl rfl (any_of HT_.out (by kernel_rfl)) (fun _ _ _ h => h) (Or.inl ⟨by rfl, ?_⟩) ?_ ?_
                          rotate_left
                          · intro w'
                            go_simp
                            with_reducible rfl
                          rotate_left
                          · simp only [Act.put, List.setIfInBounds_toArray, List.set_cons_zero, List.set_cons_succ, i64_w, i32_w]
                            rfl
                          refine take_ (i := 14) (N := some 72) (v := ?_) (a' := ?_) #[true, true, true, true, true, true, true, true, true, true, true, true, true, true, true, false, false, false, false] rfl rfl (take_ofW HT_.out HW_.out (by kernel_rfl)) (fun _ _ _ h => h) (Or.inl ⟨by rfl, ?_⟩) hHeld ?_ ?_
                          rotate_left
                          · rintro w' ⟨s0, s1⟩
                            go_simp
                            with_reducible rfl
                          rotate_left
                          · simp only [Act.put, List.setIfInBounds_toArray, List.set_cons_zero, List.set_cons_succ, i64_w, i32_w]
                            rfl
                          refine pure_ (i := 15) (N := some 73) (v := ?_) (a' := ?_) #[true, true, true, true, true, true, true, true, true, true, true, true, true, true, true, true, false, false, false] rfl rfl (any_of HT_.out (by kernel_rfl)) (fun _ _ _ h => h) (Or.inl ⟨by rfl, ?_⟩) ?_ ?_
                          rotate_left
                          · intro w'
                            go_simp
                            with_reducible rfl
                          rotate_left
                          · simp only [Act.put, List.setIfInBounds_toArray, List.set_cons_zero, List.set_cons_succ, i64_w, i32_w]
                            rfl
                          refine last_ (i := 16) (N := some 74) #[true, true, true, true, true, true, true, true, true, true, true, true, true, true, true, true, true, false, false] rfl rfl (one_of HT_.out (by kernel_rfl)) (by decide) (fun K hK => ?_)
                          refine value_ (w1 := ?_) (v := ?_) (by rfl) rfl ?_ ?_
                          rotate_left 2
                          · go_simp
                            constructor
                            · rfl
                            · rfl
                          refine hK.out _ _ ?_
                          clear hK K
                          refine norm_ (a' := ?_) ?_ ?_
                          rotate_left
                          · show Act.put _ (some 74) _ = _
                            simp only [Act.put, List.setIfInBounds_toArray, List.set_cons_zero, List.set_cons_succ, i64_w, i32_w]
                            rfl
                          refine last_ (i := 17) (N := some 75) #[true, true, true, true, true, true, true, true, true, true, true, true, true, true, true, true, true, true, false] rfl rfl (one_of HT_.out (by kernel_rfl)) (by decide) (fun K hK => ?_)
                          refine Kd.R_append_step (Kd.int .u32) (w0 := w) w.heap.size (by rfl) (.tmp 58) (.tmp 74) 34 22 (.int .u32 0) 4 rfl Tryd.underlying34 info22 rfl (by decide) (by omega) (.slice (some ad225) x5_1.length co25) x5_1 (((((((Go.bits .xor .u32 (Go.bits .xor .u32 t230 t231) t232) + (rd x5_1 (ji18))) % 4294967296) + (Go.bits .xor .u32 (Go.bits .xor .u32 t227 t228) t229)) % 4294967296) + (rd x5_1 (ji21))) % 4294967296) [.int .u32 (((((((Go.bits .xor .u32 (Go.bits .xor .u32 t230 t231) t232) + (rd x5_1 (ji18))) % 4294967296) + (Go.bits .xor .u32 (Go.bits .xor .u32 t227 t228) t229)) % 4294967296) + (rd x5_1 (ji21))) % 4294967296)] (fun _ => True) (fun _ => False) rfl rfl ?aP (fun _ hk => hk.elim) ?aF ?aO ?aB ?aS ?aL ?_
                          (case aP => exact rfl)
                          (case aB => exact (by repeat (first | (with_reducible first | exact HB.out | apply below_alloc | apply pw_below_drewN | apply below_drew1) | exact HB.out)))
                          (case aF => exact (fun _ _ => trivial))
                          (case aO => exact (by (with_reducible repeat (first | apply Kd.R_alloc | apply Kd.R_drewN | apply Kd.R_drew)); exact HO_5.out))
                          (case aS => exact (below_size (by repeat (first | (with_reducible first | exact HB.out | apply below_alloc | apply pw_below_drewN | apply below_drew1) | exact HB.out))))
                          (case aL => have := LMc24.out; omega)
                          intro v236 w27 ho hb hg hat
                          rw [← Ny235.out] at ho
                          have n0_ := Aside0.mk (hb)
                          have n1_ := Aside0.mk (ho)
                          clear HB
                          clear HO_5
                          have HB := n0_
                          have HO237 := n1_
                          clear n0_ n1_
                          clear ho hb hg hat
                          refine hK.out _ _ ?_
                          clear hK K
                          refine norm_ (a' := ?_) ?_ ?_
                          rotate_left
                          · show Act.put _ (some 75) _ = _
                            simp only [Act.put, List.setIfInBounds_toArray, List.set_cons_zero, List.set_cons_succ, i64_w, i32_w]
                            rfl
                          refine pure_ (i := 18) (N := some 5) (v := ?_) (a' := ?_) #[true, true, true, true, true, true, true, true, true, true, true, true, true, true, true, true, true, true, true] rfl rfl (any_of HT_.out (by kernel_rfl)) (fun _ _ _ h => h) (Or.inl ⟨by rfl, ?_⟩) ?_ ?_
                          rotate_left
                          · intro w'
                            go_simp
                            with_reducible rfl
                          rotate_left
                          · simp only [Act.put, List.setIfInBounds_toArray, List.set_cons_zero, List.set_cons_succ, i64_w, i32_w]
                            rfl
                          refine done_ (done_of HT_.out (by kernel_rfl)) ?_
                          try go_wp2
                          go_roundg k1
                          case measure => have := HK1.out; omega
                          case rel => exact ⟨(y235), (wrap64 (x6_1 + 1)), (by first | rfl | (simp; done) | (simp [*]; done)), H', ⟨by have := HK1.out; omega⟩, ⟨by (with_reducible repeat (first | apply Kd.R_alloc | apply Kd.R_drewN | apply Kd.R_drew)); exact HO237.out⟩, ⟨by repeat (first | (with_reducible first | exact HB.out | apply below_alloc | apply pw_below_drewN | apply below_drew1) | exact HB.out)⟩⟩
                        · rw [if_neg c24] at H
                          exact absurd H (by simp)
                      · rw [if_neg c23] at H
                        exact absurd H (by simp)
                    · rw [if_neg c22] at H
                      exact absurd H (by simp)
                  · rw [if_neg c20] at H
                    exact absurd H (by simp)
                · rw [if_neg c19] at H
                  exact absurd H (by simp)
              · rw [if_neg c11] at H
                exact absurd H (by simp)
            · rw [if_neg c10] at H
              exact absurd H (by simp)
          · rw [if_neg c8] at H
            exact absurd H (by simp)
        · rw [if_neg c7] at H
          exact absurd H (by simp)
      · rw [if_neg c5] at H
        have c5b0 : decide (x6_1 < 64) = false := decide_eq_false c5
        clear c5
        by_cases c28 : 0 < (l0.length : Int)
        · rw [if_pos c28] at H
          have c28b0 : decide (0 < (l0.length : Int)) = true := decide_eq_true c28
          have c28b1 : decide (0 < l0.length) = true := decide_eq_true (by omega)
          clear c28
          by_cases c29 : 1 < (l0.length : Int)
          · rw [if_pos c29] at H
            have c29b0 : decide (1 < (l0.length : Int)) = true := decide_eq_true c29
            have c29b1 : decide (1 < l0.length) = true := decide_eq_true (by omega)
            clear c29
            by_cases c30 : 2 < (l0.length : Int)
            · rw [if_pos c30] at H
              have c30b0 : decide (2 < (l0.length : Int)) = true := decide_eq_true c30
              have c30b1 : decide (2 < l0.length) = true := decide_eq_true (by omega)
              clear c30
              by_cases c31 : 3 < (l0.length : Int)
              · rw [if_pos c31] at H
                have c31b0 : decide (3 < (l0.length : Int)) = true := decide_eq_true c31
                have c31b1 : decide (3 < l0.length) = true := decide_eq_true (by omega)
                clear c31
                by_cases c32 : 4 < (l0.length : Int)
                · rw [if_pos c32] at H
                  have c32b0 : decide (4 < (l0.length : Int)) = true := decide_eq_true c32
                  have c32b1 : decide (4 < l0.length) = true := decide_eq_true (by omega)
                  clear c32
                  by_cases c33 : 5 < (l0.length : Int)
                  · rw [if_pos c33] at H
                    have c33b0 : decide (5 < (l0.length : Int)) = true := decide_eq_true c33
                    have c33b1 : decide (5 < l0.length) = true := decide_eq_true (by omega)
                    clear c33
                    by_cases c34 : 6 < (l0.length : Int)
                    · rw [if_pos c34] at H
                      have c34b0 : decide (6 < (l0.length : Int)) = true := decide_eq_true c34
                      have c34b1 : decide (6 < l0.length) = true := decide_eq_true (by omega)
                      clear c34
                      by_cases c35 : 7 < (l0.length : Int)
                      · rw [if_pos c35] at H
                        have c35b0 : decide (7 < (l0.length : Int)) = true := decide_eq_true c35
                        have c35b1 : decide (7 < l0.length) = true := decide_eq_true (by omega)
                        clear c35
                        have H' := Aside0.mk H
                        clear H
                        try go_wp2
                        have n0_ := Aside0.mk (Kd.R_drew HO_5.out)
                        have n1_ := Aside0.mk (below_drew1 HB.out)
                        clear HO_5
                        clear HB
                        have HO_5 := n0_
                        have HB := n1_
                        clear n0_ n1_
                        have p238 : 0 ≤ (0 : Int) := (by omega)
                        have q238 : 0 < (l0.length : Int) := of_decide_eq_true (by first | (with_reducible assumption) | assumption)
                        obtain ⟨ad238, e238, hx238_0⟩ := Kd.at_int HR0.out 0 p238 q238
                        have hw238_0 := hx238_0
                        (try rw [show ((0 : Int)).toNat = 0 from rfl] at hw238_0)
                        (try rw [show 0 * 1 = 0 from rfl] at hw238_0)
                        (try rw [Addr.add_zero'] at hw238_0)
                        cases e238
                        have qi238 : (0 < l0.length) = True := eq_true (by omega)
                        (try rw [show ((0 : Int)).toNat = 0 from rfl] at hx238_0)
                        (try rw [Addr.add_zero'] at hx238_0)
                        replace hx238_0 := (HB.out.cell (World.block_lt_of_cell? w _ hx238_0)).trans hx238_0
                        replace p238 := eq_true p238
                        replace q238 := eq_true q238
                        have p239 : 0 ≤ (1 : Int) := (by omega)
                        have q239 : 1 < (l0.length : Int) := of_decide_eq_true (by first | (with_reducible assumption) | assumption)
                        obtain ⟨ad239, e239, hx239_0⟩ := Kd.at_int HR0.out 1 p239 q239
                        have hw239_0 := hx239_0
                        (try rw [show ((1 : Int)).toNat = 1 from rfl] at hw239_0)
                        (try rw [show 1 * 1 = 1 from rfl] at hw239_0)
                        (try simp only [Nat.reduceMul, Nat.reduceEqDiff, Go.Addr.add, ↓reduceIte] at hw239_0)
                        obtain rfl : ad238 = ad239 := (by injection e239)
                        (try simp only [show (1 : Int).toNat = 1 from rfl, Nat.reduceMul, Nat.reduceEqDiff, Go.Addr.add, ↓reduceIte] at hx239_0)
                        have qi239 : (1 < l0.length) = True := eq_true (by omega)
                        (try rw [show ((1 : Int)).toNat = 1 from rfl] at hx239_0)
                        replace hx239_0 := (HB.out.cell (World.block_lt_of_cell? w _ hx239_0)).trans hx239_0
                        replace p239 := eq_true p239
                        replace q239 := eq_true q239
                        have p240 : 0 ≤ (2 : Int) := (by omega)
                        have q240 : 2 < (l0.length : Int) := of_decide_eq_true (by first | (with_reducible assumption) | assumption)
                        obtain ⟨ad240, e240, hx240_0⟩ := Kd.at_int HR0.out 2 p240 q240
                        have hw240_0 := hx240_0
                        (try rw [show ((2 : Int)).toNat = 2 from rfl] at hw240_0)
                        (try rw [show 2 * 1 = 2 from rfl] at hw240_0)
                        (try simp only [Nat.reduceMul, Nat.reduceEqDiff, Go.Addr.add, ↓reduceIte] at hw240_0)
                        obtain rfl : ad238 = ad240 := (by injection e240)
                        (try simp only [show (2 : Int).toNat = 2 from rfl, Nat.reduceMul, Nat.reduceEqDiff, Go.Addr.add, ↓reduceIte] at hx240_0)
                        have qi240 : (2 < l0.length) = True := eq_true (by omega)
                        (try rw [show ((2 : Int)).toNat = 2 from rfl] at hx240_0)
                        replace hx240_0 := (HB.out.cell (World.block_lt_of_cell? w _ hx240_0)).trans hx240_0
                        replace p240 := eq_true p240
                        replace q240 := eq_true q240
                        have p241 : 0 ≤ (3 : Int) := (by omega)
                        have q241 : 3 < (l0.length : Int) := of_decide_eq_true (by first | (with_reducible assumption) | assumption)
                        obtain ⟨ad241, e241, hx241_0⟩ := Kd.at_int HR0.out 3 p241 q241
                        have hw241_0 := hx241_0
                        (try rw [show ((3 : Int)).toNat = 3 from rfl] at hw241_0)
                        (try rw [show 3 * 1 = 3 from rfl] at hw241_0)
                        (try simp only [Nat.reduceMul, Nat.reduceEqDiff, Go.Addr.add, ↓reduceIte] at hw241_0)
                        obtain rfl : ad238 = ad241 := (by injection e241)
                        (try simp only [show (3 : Int).toNat = 3 from rfl, Nat.reduceMul, Nat.reduceEqDiff, Go.Addr.add, ↓reduceIte] at hx241_0)
                        have qi241 : (3 < l0.length) = True := eq_true (by omega)
                        (try rw [show ((3 : Int)).toNat = 3 from rfl] at hx241_0)
                        replace hx241_0 := (HB.out.cell (World.block_lt_of_cell? w _ hx241_0)).trans hx241_0
                        replace p241 := eq_true p241
                        replace q241 := eq_true q241
                        refine start_ (n := 16) (S := fun w' => w'.cell? ad238 = some (.int .u32 (rd l0 0)) ∧ w'.cell? ⟨ad238.block, ad238.off + 1, none⟩ = some (.int .u32 (rd l0 1)) ∧ w'.cell? ⟨ad238.block, ad238.off + 2, none⟩ = some (.int .u32 (rd l0 2)) ∧ w'.cell? ⟨ad238.block, ad238.off + 3, none⟩ = some (.int .u32 (rd l0 3))) (ds := []) #[false, false, false, false, false, false, false, false, false, false, false, false, false, false, false, false] (by kernel_rfl) rfl rfl ⟨((HB.out.cell (World.block_lt_of_cell? w _ hw238_0)).trans hw238_0), ((HB.out.cell (World.block_lt_of_cell? w _ hw239_0)).trans hw239_0), ((HB.out.cell (World.block_lt_of_cell? w _ hw240_0)).trans hw240_0), ((HB.out.cell (World.block_lt_of_cell? w _ hw241_0)).trans hw241_0)⟩ (fun hHeld => ?_); refine with_tabW wristbandref02_Block.tab10 wristbandref02_Block.bits10 (fun HT_ HW_ => ?_)
                        generalize wr.drew = w36 at HO_5 HB hx238_0 hx239_0 hx240_0 hx241_0 hHeld ⊢
                        refine pure_ (i := 0) (N := some 76) (v := ?_) (a' := ?_) #[true, false, false, false, false, false, false, false, false, false, false, false, false, false, false, false] rfl rfl (any_of HT_.out (by kernel_rfl)) (fun _ _ _ h => h) (Or.inl ⟨by rfl, ?_⟩) ?_ ?_
                        rotate_left
                        · intro w'
                          go_simp
                          with_reducible rfl
                        rotate_left
                        · simp only [Act.put, List.setIfInBounds_toArray, List.set_cons_zero, List.set_cons_succ, i64_w, i32_w]
                          rfl
                        refine pure_ (i := 1) (N := some 77) (v := ?_) (a' := ?_) #[true, true, false, false, false, false, false, false, false, false, false, false, false, false, false, false] rfl rfl (any_of HT_.out (by kernel_rfl)) (fun _ _ _ h => h) (Or.inl ⟨by rfl, ?_⟩) ?_ ?_
                        rotate_left
                        · intro w'
                          go_simp
                          with_reducible rfl
                        rotate_left
                        · simp only [Act.put, List.setIfInBounds_toArray, List.set_cons_zero, List.set_cons_succ, i64_w, i32_w]
                          rfl
                        refine pure_ (i := 3) (N := some 79) (v := ?_) (a' := ?_) #[true, true, false, true, false, false, false, false, false, false, false, false, false, false, false, false] rfl rfl (any_of HT_.out (by kernel_rfl)) (fun _ _ _ h => h) (Or.inl ⟨by rfl, ?_⟩) ?_ ?_
                        rotate_left
                        · intro w'
                          go_simp
                          with_reducible rfl
                        rotate_left
                        · simp only [Act.put, List.setIfInBounds_toArray, List.set_cons_zero, List.set_cons_succ, i64_w, i32_w]
                          rfl
                        refine pure_ (i := 4) (N := some 80) (v := ?_) (a' := ?_) #[true, true, false, true, true, false, false, false, false, false, false, false, false, false, false, false] rfl rfl (any_of HT_.out (by kernel_rfl)) (fun _ _ _ h => h) (Or.inl ⟨by rfl, ?_⟩) ?_ ?_
                        rotate_left
                        · intro w'
                          go_simp
                          with_reducible rfl
                        rotate_left
                        · simp only [Act.put, List.setIfInBounds_toArray, List.set_cons_zero, List.set_cons_succ, i64_w, i32_w]
                          rfl
                        refine pure_ (i := 6) (N := some 82) (v := ?_) (a' := ?_) #[true, true, false, true, true, false, true, false, false, false, false, false, false, false, false, false] rfl rfl (any_of HT_.out (by kernel_rfl)) (fun _ _ _ h => h) (Or.inl ⟨by rfl, ?_⟩) ?_ ?_
                        rotate_left
                        · intro w'
                          go_simp
                          with_reducible rfl
                        rotate_left
                        · simp only [Act.put, List.setIfInBounds_toArray, List.set_cons_zero, List.set_cons_succ, i64_w, i32_w]
                          rfl
                        refine pure_ (i := 7) (N := some 83) (v := ?_) (a' := ?_) #[true, true, false, true, true, false, true, true, false, false, false, false, false, false, false, false] rfl rfl (any_of HT_.out (by kernel_rfl)) (fun _ _ _ h => h) (Or.inl ⟨by rfl, ?_⟩) ?_ ?_
                        rotate_left
                        · intro w'
                          go_simp
                          with_reducible rfl
                        rotate_left
                        · simp only [Act.put, List.setIfInBounds_toArray, List.set_cons_zero, List.set_cons_succ, i64_w, i32_w]
                          rfl
                        refine pure_ (i := 9) (N := some 85) (v := ?_) (a' := ?_) #[true, true, false, true, true, false, true, true, false, true, false, false, false, false, false, false] rfl rfl (any_of HT_.out (by kernel_rfl)) (fun _ _ _ h => h) (Or.inl ⟨by rfl, ?_⟩) ?_ ?_
                        rotate_left
                        · intro w'
                          go_simp
                          with_reducible rfl
                        rotate_left
                        · simp only [Act.put, List.setIfInBounds_toArray, List.set_cons_zero, List.set_cons_succ, i64_w, i32_w]
                          rfl
                        refine pure_ (i := 10) (N := some 86) (v := ?_) (a' := ?_) #[true, true, false, true, true, false, true, true, false, true, true, false, false, false, false, false] rfl rfl (any_of HT_.out (by kernel_rfl)) (fun _ _ _ h => h) (Or.inl ⟨by rfl, ?_⟩) ?_ ?_
                        rotate_left
                        · intro w'
                          go_simp
                          with_reducible rfl
                        rotate_left
                        · simp only [Act.put, List.setIfInBounds_toArray, List.set_cons_zero, List.set_cons_succ, i64_w, i32_w]
                          rfl
                        refine take_ (i := 2) (N := some 78) (v := ?_) (a' := ?_) #[true, true, true, true, true, false, true, true, false, true, true, false, false, false, false, false] rfl rfl (take_ofW HT_.out HW_.out (by kernel_rfl)) (fun _ _ _ h => h) (Or.inl ⟨by rfl, ?_⟩) hHeld ?_ ?_
                        rotate_left
                        · rintro w' ⟨s0, s1, s2, s3⟩
                          go_simp
                          with_reducible rfl
                        rotate_left
                        · simp only [Act.put, List.setIfInBounds_toArray, List.set_cons_zero, List.set_cons_succ, i64_w, i32_w]
                          rfl
                        refine pure_ (i := 12) (N := some 11) (v := ?_) (a' := ?_) #[true, true, true, true, true, false, true, true, false, true, true, false, true, false, false, false] rfl rfl (any_of HT_.out (by kernel_rfl)) (fun _ _ _ h => h) (Or.inl ⟨by rfl, ?_⟩) ?_ ?_
                        rotate_left
                        · intro w'
                          go_simp
                          with_reducible rfl
                        rotate_left
                        · simp only [Act.put, List.setIfInBounds_toArray, List.set_cons_zero, List.set_cons_succ, i64_w, i32_w]
                          rfl
                        refine take_ (i := 5) (N := some 81) (v := ?_) (a' := ?_) #[true, true, true, true, true, true, true, true, false, true, true, false, true, false, false, false] rfl rfl (take_ofW HT_.out HW_.out (by kernel_rfl)) (fun _ _ _ h => h) (Or.inl ⟨by rfl, ?_⟩) hHeld ?_ ?_
                        rotate_left
                        · rintro w' ⟨s0, s1, s2, s3⟩
                          go_simp
                          with_reducible rfl
                        rotate_left
                        · simp only [Act.put, List.setIfInBounds_toArray, List.set_cons_zero, List.set_cons_succ, i64_w, i32_w]
                          rfl
                        refine pure_ (i := 13) (N := some 12) (v := ?_) (a' := ?_) #[true, true, true, true, true, true, true, true, false, true, true, false, true, true, false, false] rfl rfl (any_of HT_.out (by kernel_rfl)) (fun _ _ _ h => h) (Or.inl ⟨by rfl, ?_⟩) ?_ ?_
                        rotate_left
                        · intro w'
                          go_simp
                          with_reducible rfl
                        rotate_left
                        · simp only [Act.put, List.setIfInBounds_toArray, List.set_cons_zero, List.set_cons_succ, i64_w, i32_w]
                          rfl
                        refine take_ (i := 8) (N := some 84) (v := ?_) (a' := ?_) #[true, true, true, true, true, true, true, true, true, true, true, false, true, true, false, false] rfl rfl (take_ofW HT_.out HW_.out (by kernel_rfl)) (fun _ _ _ h => h) (Or.inl ⟨by rfl, ?_⟩) hHeld ?_ ?_
                        rotate_left
                        · rintro w' ⟨s0, s1, s2, s3⟩
                          go_simp
                          with_reducible rfl
                        rotate_left
                        · simp only [Act.put, List.setIfInBounds_toArray, List.set_cons_zero, List.set_cons_succ, i64_w, i32_w]
                          rfl
                        refine pure_ (i := 14) (N := some 13) (v := ?_) (a' := ?_) #[true, true, true, true, true, true, true, true, true, true, true, false, true, true, true, false] rfl rfl (any_of HT_.out (by kernel_rfl)) (fun _ _ _ h => h) (Or.inl ⟨by rfl, ?_⟩) ?_ ?_
                        rotate_left
                        · intro w'
                          go_simp
                          with_reducible rfl
                        rotate_left
                        · simp only [Act.put, List.setIfInBounds_toArray, List.set_cons_zero, List.set_cons_succ, i64_w, i32_w]
                          rfl
                        refine take_ (i := 11) (N := some 87) (v := ?_) (a' := ?_) #[true, true, true, true, true, true, true, true, true, true, true, true, true, true, true, false] rfl rfl (take_ofW HT_.out HW_.out (by kernel_rfl)) (fun _ _ _ h => h) (Or.inl ⟨by rfl, ?_⟩) hHeld ?_ ?_
                        rotate_left
                        · rintro w' ⟨s0, s1, s2, s3⟩
                          go_simp
                          with_reducible rfl
                        rotate_left
                        · simp only [Act.put, List.setIfInBounds_toArray, List.set_cons_zero, List.set_cons_succ, i64_w, i32_w]
                          rfl
                        refine pure_ (i := 15) (N := some 14) (v := ?_) (a' := ?_) #[true, true, true, true, true, true, true, true, true, true, true, true, true, true, true, true] rfl rfl (any_of HT_.out (by kernel_rfl)) (fun _ _ _ h => h) (Or.inl ⟨by rfl, ?_⟩) ?_ ?_
                        rotate_left
                        · intro w'
                          go_simp
                          with_reducible rfl
                        rotate_left
                        · simp only [Act.put, List.setIfInBounds_toArray, List.set_cons_zero, List.set_cons_succ, i64_w, i32_w]
                          rfl
                        refine done_ (done_of HT_.out (by kernel_rfl)) ?_
                        try go_wp2
                        have n0_ := Aside0.mk (Kd.R_drew HO_5.out)
                        have n1_ := Aside0.mk (below_drew1 HB.out)
                        clear HO_5
                        clear HB
                        have HO_5 := n0_
                        have HB := n1_
                        clear n0_ n1_
                        have p242 : 0 ≤ (4 : Int) := (by omega)
                        have q242 : 4 < (l0.length : Int) := of_decide_eq_true (by first | (with_reducible assumption) | assumption)
                        obtain ⟨ad242, e242, hx242_0⟩ := Kd.at_int HR0.out 4 p242 q242
                        have hw242_0 := hx242_0
                        (try rw [show ((4 : Int)).toNat = 4 from rfl] at hw242_0)
                        (try rw [show 4 * 1 = 4 from rfl] at hw242_0)
                        (try simp only [Nat.reduceMul, Nat.reduceEqDiff, Go.Addr.add, ↓reduceIte] at hw242_0)
                        obtain rfl : ad238 = ad242 := (by injection e242)
                        (try simp only [show (4 : Int).toNat = 4 from rfl, Nat.reduceMul, Nat.reduceEqDiff, Go.Addr.add, ↓reduceIte] at hx242_0)
                        have qi242 : (4 < l0.length) = True := eq_true (by omega)
                        (try rw [show ((4 : Int)).toNat = 4 from rfl] at hx242_0)
                        replace hx242_0 := (HB.out.cell (World.block_lt_of_cell? w _ hx242_0)).trans hx242_0
                        replace p242 := eq_true p242
                        replace q242 := eq_true q242
                        have p243 : 0 ≤ (5 : Int) := (by omega)
                        have q243 : 5 < (l0.length : Int) := of_decide_eq_true (by first | (with_reducible assumption) | assumption)
                        obtain ⟨ad243, e243, hx243_0⟩ := Kd.at_int HR0.out 5 p243 q243
                        have hw243_0 := hx243_0
                        (try rw [show ((5 : Int)).toNat = 5 from rfl] at hw243_0)
                        (try rw [show 5 * 1 = 5 from rfl] at hw243_0)
                        (try simp only [Nat.reduceMul, Nat.reduceEqDiff, Go.Addr.add, ↓reduceIte] at hw243_0)
                        obtain rfl : ad238 = ad243 := (by injection e243)
                        (try simp only [show (5 : Int).toNat = 5 from rfl, Nat.reduceMul, Nat.reduceEqDiff, Go.Addr.add, ↓reduceIte] at hx243_0)
                        have qi243 : (5 < l0.length) = True := eq_true (by omega)
                        (try rw [show ((5 : Int)).toNat = 5 from rfl] at hx243_0)
                        replace hx243_0 := (HB.out.cell (World.block_lt_of_cell? w _ hx243_0)).trans hx243_0
                        replace p243 := eq_true p243
                        replace q243 := eq_true q243
                        have p244 : 0 ≤ (6 : Int) := (by omega)
                        have q244 : 6 < (l0.length : Int) := of_decide_eq_true (by first | (with_reducible assumption) | assumption)
                        obtain ⟨ad244, e244, hx244_0⟩ := Kd.at_int HR0.out 6 p244 q244
                        have hw244_0 := hx244_0
                        (try rw [show ((6 : Int)).toNat = 6 from rfl] at hw244_0)
                        (try rw [show 6 * 1 = 6 from rfl] at hw244_0)
                        (try simp only [Nat.reduceMul, Nat.reduceEqDiff, Go.Addr.add, ↓reduceIte] at hw244_0)
                        obtain rfl : ad238 = ad244 := (by injection e244)
                        (try simp only [show (6 : Int).toNat = 6 from rfl, Nat.reduceMul, Nat.reduceEqDiff, Go.Addr.add, ↓reduceIte] at hx244_0)
                        have qi244 : (6 < l0.length) = True := eq_true (by omega)
                        (try rw [show ((6 : Int)).toNat = 6 from rfl] at hx244_0)
                        replace hx244_0 := (HB.out.cell (World.block_lt_of_cell? w _ hx244_0)).trans hx244_0
                        replace p244 := eq_true p244
                        replace q244 := eq_true q244
                        have p245 : 0 ≤ (7 : Int) := (by omega)
                        have q245 : 7 < (l0.length : Int) := of_decide_eq_true (by first | (with_reducible assumption) | assumption)
                        obtain ⟨ad245, e245, hx245_0⟩ := Kd.at_int HR0.out 7 p245 q245
                        have hw245_0 := hx245_0
                        (try rw [show ((7 : Int)).toNat = 7 from rfl] at hw245_0)
                        (try rw [show 7 * 1 = 7 from rfl] at hw245_0)
                        (try simp only [Nat.reduceMul, Nat.reduceEqDiff, Go.Addr.add, ↓reduceIte] at hw245_0)
                        obtain rfl : ad238 = ad245 := (by injection e245)
                        (try simp only [show (7 : Int).toNat = 7 from rfl, Nat.reduceMul, Nat.reduceEqDiff, Go.Addr.add, ↓reduceIte] at hx245_0)
                        have qi245 : (7 < l0.length) = True := eq_true (by omega)
                        (try rw [show ((7 : Int)).toNat = 7 from rfl] at hx245_0)
                        replace hx245_0 := (HB.out.cell (World.block_lt_of_cell? w _ hx245_0)).trans hx245_0
                        replace p245 := eq_true p245
                        replace q245 := eq_true q245
                        refine start_ (n := 16) (S := fun w' => w'.cell? ⟨ad238.block, ad238.off + 4, none⟩ = some (.int .u32 (rd l0 4)) ∧ w'.cell? ⟨ad238.block, ad238.off + 5, none⟩ = some (.int .u32 (rd l0 5)) ∧ w'.cell? ⟨ad238.block, ad238.off + 6, none⟩ = some (.int .u32 (rd l0 6)) ∧ w'.cell? ⟨ad238.block, ad238.off + 7, none⟩ = some (.int .u32 (rd l0 7))) (ds := []) #[false, false, false, false, false, false, false, false, false, false, false, false, false, false, false, false] (by kernel_rfl) rfl rfl ⟨((HB.out.cell (World.block_lt_of_cell? w _ hw242_0)).trans hw242_0), ((HB.out.cell (World.block_lt_of_cell? w _ hw243_0)).trans hw243_0), ((HB.out.cell (World.block_lt_of_cell? w _ hw244_0)).trans hw244_0), ((HB.out.cell (World.block_lt_of_cell? w _ hw245_0)).trans hw245_0)⟩ (fun hHeld => ?_); refine with_tabW wristbandref02_Block.tab11 wristbandref02_Block.bits11 (fun HT_ HW_ => ?_)
                        generalize w36.drew = w37 at HO_5 HB hx242_0 hx243_0 hx244_0 hx245_0 hHeld ⊢
                        refine pure_ (i := 0) (N := some 88) (v := ?_) (a' := ?_) #[true, false, false, false, false, false, false, false, false, false, false, false, false, false, false, false] rfl rfl (any_of HT_.out (by kernel_rfl)) (fun _ _ _ h => h) (Or.inl ⟨by rfl, ?_⟩) ?_ ?_
                        rotate_left
                        · intro w'
                          go_simp
                          with_reducible rfl
                        rotate_left
                        · simp only [Act.put, List.setIfInBounds_toArray, List.set_cons_zero, List.set_cons_succ, i64_w, i32_w]
                          rfl
                        refine pure_ (i := 1) (N := some 89) (v := ?_) (a' := ?_) #[true, true, false, false, false, false, false, false, false, false, false, false, false, false, false, false] rfl rfl (any_of HT_.out (by kernel_rfl)) (fun _ _ _ h => h) (Or.inl ⟨by rfl, ?_⟩) ?_ ?_
                        rotate_left
                        · intro w'
                          go_simp
                          with_reducible rfl
                        rotate_left
                        · simp only [Act.put, List.setIfInBounds_toArray, List.set_cons_zero, List.set_cons_succ, i64_w, i32_w]
                          rfl
                        refine pure_ (i := 3) (N := some 91) (v := ?_) (a' := ?_) #[true, true, false, true, false, false, false, false, false, false, false, false, false, false, false, false] rfl rfl (any_of HT_.out (by kernel_rfl)) (fun _ _ _ h => h) (Or.inl ⟨by rfl, ?_⟩) ?_ ?_
                        rotate_left
                        · intro w'
                          go_simp
                          with_reducible rfl
                        rotate_left
                        · simp only [Act.put, List.setIfInBounds_toArray, List.set_cons_zero, List.set_cons_succ, i64_w, i32_w]
                          rfl
                        refine pure_ (i := 4) (N := some 92) (v := ?_) (a' := ?_) #[true, true, false, true, true, false, false, false, false, false, false, false, false, false, false, false] rfl rfl (any_of HT_.out (by kernel_rfl)) (fun _ _ _ h => h) (Or.inl ⟨by rfl, ?_⟩) ?_ ?_
                        rotate_left
                        · intro w'
                          go_simp
                          with_reducible rfl
                        rotate_left
                        · simp only [Act.put, List.setIfInBounds_toArray, List.set_cons_zero, List.set_cons_succ, i64_w, i32_w]
                          rfl
                        refine pure_ (i := 6) (N := some 94) (v := ?_) (a' := ?_) #[true, true, false, true, true, false, true, false, false, false, false, false, false, false, false, false] rfl rfl (any_of HT_.out (by kernel_rfl)) (fun _ _ _ h => h) (Or.inl ⟨by rfl, ?_⟩) ?_ ?_
                        rotate_left
                        · intro w'
                          go_simp
                          with_reducible rfl
                        rotate_left
                        · simp only [Act.put, List.setIfInBounds_toArray, List.set_cons_zero, List.set_cons_succ, i64_w, i32_w]
                          rfl
                        refine pure_ (i := 7) (N := some 95) (v := ?_) (a' := ?_) #[true, true, false, true, true, false, true, true, false, false, false, false, false, false, false, false] rfl rfl (any_of HT_.out (by kernel_rfl)) (fun _ _ _ h => h) (Or.inl ⟨by rfl, ?_⟩) ?_ ?_
                        rotate_left
                        · intro w'
                          go_simp
                          with_reducible rfl
                        rotate_left
                        · simp only [Act.put, List.setIfInBounds_toArray, List.set_cons_zero, List.set_cons_succ, i64_w, i32_w]
                          rfl
                        refine pure_ (i := 9) (N := some 97) (v := ?_) (a' := ?_) #[true, true, false, true, true, false, true, true, false, true, false, false, false, false, false, false] rfl rfl (any_of HT_.out (by kernel_rfl)) (fun _ _ _ h => h) (Or.inl ⟨by rfl, ?_⟩) ?_ ?_
                        rotate_left
                        · intro w'
                          go_simp
                          with_reducible rfl
                        rotate_left
                        · simp only [Act.put, List.setIfInBounds_toArray, List.set_cons_zero, List.set_cons_succ, i64_w, i32_w]
                          rfl
                        refine pure_ (i := 10) (N := some 98) (v := ?_) (a' := ?_) #[true, true, false, true, true, false, true, true, false, true, true, false, false, false, false, false] rfl rfl (any_of HT_.out (by kernel_rfl)) (fun _ _ _ h => h) (Or.inl ⟨by rfl, ?_⟩) ?_ ?_
                        rotate_left
                        · intro w'
                          go_simp
                          with_reducible rfl
                        rotate_left
                        · simp only [Act.put, List.setIfInBounds_toArray, List.set_cons_zero, List.set_cons_succ, i64_w, i32_w]
                          rfl
                        refine take_ (i := 2) (N := some 90) (v := ?_) (a' := ?_) #[true, true, true, true, true, false, true, true, false, true, true, false, false, false, false, false] rfl rfl (take_ofW HT_.out HW_.out (by kernel_rfl)) (fun _ _ _ h => h) (Or.inl ⟨by rfl, ?_⟩) hHeld ?_ ?_
                        rotate_left
                        · rintro w' ⟨s0, s1, s2, s3⟩
                          go_simp
                          with_reducible rfl
                        rotate_left
                        · simp only [Act.put, List.setIfInBounds_toArray, List.set_cons_zero, List.set_cons_succ, i64_w, i32_w]
                          rfl
                        refine pure_ (i := 12) (N := some 15) (v := ?_) (a' := ?_) #[true, true, true, true, true, false, true, true, false, true, true, false, true, false, false, false] rfl rfl (any_of HT_.out (by kernel_rfl)) (fun _ _ _ h => h) (Or.inl ⟨by rfl, ?_⟩) ?_ ?_
                        rotate_left
                        · intro w'
                          go_simp
                          with_reducible rfl
                        rotate_left
                        · simp only [Act.put, List.setIfInBounds_toArray, List.set_cons_zero, List.set_cons_succ, i64_w, i32_w]
                          rfl
                        refine take_ (i := 5) (N := some 93) (v := ?_) (a' := ?_) #[true, true, true, true, true, true, true, true, false, true, true, false, true, false, false, false] rfl rfl (take_ofW HT_.out HW_.out (by kernel_rfl)) (fun _ _ _ h => h) (Or.inl ⟨by rfl, ?_⟩) hHeld ?_ ?_
                        rotate_left
                        · rintro w' ⟨s0, s1, s2, s3⟩
                          go_simp
                          with_reducible rfl
                        rotate_left
                        · simp only [Act.put, List.setIfInBounds_toArray, List.set_cons_zero, List.set_cons_succ, i64_w, i32_w]
                          rfl
                        refine pure_ (i := 13) (N := some 16) (v := ?_) (a' := ?_) #[true, true, true, true, true, true, true, true, false, true, true, false, true, true, false, false] rfl rfl (any_of HT_.out (by kernel_rfl)) (fun _ _ _ h => h) (Or.inl ⟨by rfl, ?_⟩) ?_ ?_
                        rotate_left
                        · intro w'
                          go_simp
                          with_reducible rfl
                        rotate_left
                        · simp only [Act.put, List.setIfInBounds_toArray, List.set_cons_zero, List.set_cons_succ, i64_w, i32_w]
                          rfl
                        refine take_ (i := 8) (N := some 96) (v := ?_) (a' := ?_) #[true, true, true, true, true, true, true, true, true, true, true, false, true, true, false, false] rfl rfl (take_ofW HT_.out HW_.out (by kernel_rfl)) (fun _ _ _ h => h) (Or.inl ⟨by rfl, ?_⟩) hHeld ?_ ?_
                        rotate_left
                        · rintro w' ⟨s0, s1, s2, s3⟩
                          go_simp
                          with_reducible rfl
                        rotate_left
                        · simp only [Act.put, List.setIfInBounds_toArray, List.set_cons_zero, List.set_cons_succ, i64_w, i32_w]
                          rfl
                        refine pure_ (i := 14) (N := some 17) (v := ?_) (a' := ?_) #[true, true, true, true, true, true, true, true, true, true, true, false, true, true, true, false] rfl rfl (any_of HT_.out (by kernel_rfl)) (fun _ _ _ h => h) (Or.inl ⟨by rfl, ?_⟩) ?_ ?_
                        rotate_left
                        · intro w'
                          go_simp
                          with_reducible rfl
                        rotate_left
                        · simp only [Act.put, List.setIfInBounds_toArray, List.set_cons_zero, List.set_cons_succ, i64_w, i32_w]
                          rfl
                        refine take_ (i := 11) (N := some 99) (v := ?_) (a' := ?_) #[true, true, true, true, true, true, true, true, true, true, true, true, true, true, true, false] rfl rfl (take_ofW HT_.out HW_.out (by kernel_rfl)) (fun _ _ _ h => h) (Or.inl ⟨by rfl, ?_⟩) hHeld ?_ ?_
                        rotate_left
                        · rintro w' ⟨s0, s1, s2, s3⟩
                          go_simp
                          with_reducible rfl
                        rotate_left
                        · simp only [Act.put, List.setIfInBounds_toArray, List.set_cons_zero, List.set_cons_succ, i64_w, i32_w]
                          rfl
                        refine pure_ (i := 15) (N := some 18) (v := ?_) (a' := ?_) #[true, true, true, true, true, true, true, true, true, true, true, true, true, true, true, true] rfl rfl (any_of HT_.out (by kernel_rfl)) (fun _ _ _ h => h) (Or.inl ⟨by rfl, ?_⟩) ?_ ?_
                        rotate_left
                        · intro w'
                          go_simp
                          with_reducible rfl
                        rotate_left
                        · simp only [Act.put, List.setIfInBounds_toArray, List.set_cons_zero, List.set_cons_succ, i64_w, i32_w]
                          rfl
                        refine done_ (done_of HT_.out (by kernel_rfl)) ?_
                        try go_wp2
                        go_loopg [11, 12, 13, 14, 15, 16, 17, 18, 19] k1 (fun kq v11 v12 v13 v14 v15 v16 v17 v18 v19 w' => ∃ (x11_2 : Int) (x12_2 : Int) (x13_2 : Int) (x14_2 : Int) (x15_2 : Int) (x16_2 : Int) (x17_2 : Int) (x18_2 : Int) (x19_2 : Int), v11 = .int .u32 x11_2 ∧ v12 = .int .u32 x12_2 ∧ v13 = .int .u32 x13_2 ∧ v14 = .int .u32 x14_2 ∧ v15 = .int .u32 x15_2 ∧ v16 = .int .u32 x16_2 ∧ v17 = .int .u32 x17_2 ∧ v18 = .int .u32 x18_2 ∧ v19 = .int .i64 x19_2 ∧ Aside0 (wristbandref02_Block.l1 kq l0 x5_1 x11_2 x12_2 x13_2 x14_2 x15_2 x16_2 x17_2 x18_2 x19_2 = some r) ∧ Aside0 (kq ≤ k1) ∧ Aside0 (Kd.R (Kd.int .u32) 22 w' w.heap.size (fun _ => True) u5 x5_1) ∧ Aside0 (Below w.heap.size w w'))
                        case atStart => exact ⟨(rd l0 0), (rd l0 1), (rd l0 2), (rd l0 3), (rd l0 4), (rd l0 5), (rd l0 6), (rd l0 7), (0), (by first | rfl | (simp; done) | (simp [*]; done)), (by first | rfl | (simp; done) | (simp [*]; done)), (by first | rfl | (simp; done) | (simp [*]; done)), (by first | rfl | (simp; done) | (simp [*]; done)), (by first | rfl | (simp; done) | (simp [*]; done)), (by first | rfl | (simp; done) | (simp [*]; done)), (by first | rfl | (simp; done) | (simp [*]; done)), (by first | rfl | (simp; done) | (simp [*]; done)), (by first | rfl | (simp; done) | (simp [*]; done)), H', ⟨Nat.le_refl _⟩, ⟨by (with_reducible repeat (first | apply Kd.R_alloc | apply Kd.R_drewN | apply Kd.R_drew)); exact HO_5.out⟩, ⟨by repeat (first | (with_reducible first | exact HB.out | apply below_alloc | apply pw_below_drewN | apply below_drew1) | exact HB.out)⟩⟩
                        case round =>
                          clear H'
                          try clear c1
                          try clear c2
                          try clear p2
                          try clear q2
                          try clear hx2
                          try clear qi2
                          try clear c3
                          try clear c5
                          try clear c5b0
                          try clear p6
                          try clear c7
                          try clear c8
                          try clear c10
                          try clear c11
                          try clear c19
                          try clear c20
                          try clear c22
                          try clear c23
                          try clear p23
                          try clear q23
                          try clear hx23
                          try clear qi23
                          try clear c24
                          try clear p24
                          try clear q24
                          try clear hx24
                          try clear qi24
                          try clear c28
                          try clear c28b0
                          try clear c28b1
                          try clear c29
                          try clear c29b0
                          try clear c29b1
                          try clear c30
                          try clear c30b0
                          try clear c30b1
                          try clear c31
                          try clear c31b0
                          try clear c31b1
                          try clear c32
                          try clear c32b0
                          try clear c32b1
                          try clear c33
                          try clear c33b0
                          try clear c33b1
                          try clear c34
                          try clear c34b0
                          try clear c34b1
                          try clear c35
                          try clear c35b0
                          try clear c35b1
                          try clear hx238_0
                          try clear hx239_0
                          try clear hx240_0
                          try clear hx241_0
                          try clear hx242_0
                          try clear hx243_0
                          try clear hx244_0
                          try clear hx245_0
                          try clear p238
                          try clear p239
                          try clear p240
                          try clear p241
                          try clear p242
                          try clear p243
                          try clear p244
                          try clear p245
                          try clear q238
                          try clear q239
                          try clear q240
                          try clear q241
                          try clear q242
                          try clear q243
                          try clear q244
                          try clear q245
                          obtain ⟨x11_2, x12_2, x13_2, x14_2, x15_2, x16_2, x17_2, x18_2, x19_2, rfl, rfl, rfl, rfl, rfl, rfl, rfl, rfl, rfl, HA, HK2, HO_5, HB⟩ := hrel
                          cases gk with
                          | zero => exact absurd HA.out (by simp [wristbandref02_Block.l1])
                          | succ k2 =>
                            have H := HA.out
                            clear HA
                            simp only [wristbandref02_Block.l1] at H
                            by_cases c38 : x19_2 < 64
                            · rw [if_pos c38] at H
                              have c38b0 : decide (x19_2 < 64) = true := decide_eq_true c38
                              clear c38
                              replace H := Option.bind_eq_some_iff.mp H
                              obtain ⟨t257, A390, H⟩ := H
                              replace H : ((wristbandref01_Rot.f k2 x15_2 11).bind fun t258 => ((wristbandref01_Rot.f k2 x15_2 25).bind fun t259 => ((wristbandref02_constant.f x19_2).bind fun t260 => (if 0 ≤ x19_2 then (if x19_2 < (x5_1.length : Int) then ((wristbandref01_Rot.f k2 x11_2 2).bind fun t262 => ((wristbandref01_Rot.f k2 x11_2 13).bind fun t263 => ((wristbandref01_Rot.f k2 x11_2 22).bind fun t264 => (wristbandref02_Block.l1 k2 l0 x5_1 ((((((((((x18_2 + (Go.bits .xor .u32 (Go.bits .xor .u32 t257 t258) t259)) % 4294967296) + (Go.bits .or .u32 (Go.bits .and .u32 x15_2 x16_2) (Go.bits .and .u32 ((4294967295 - x15_2) % 4294967296) x17_2))) % 4294967296) + t260) % 4294967296) + (rd x5_1 x19_2)) % 4294967296) + (((Go.bits .xor .u32 (Go.bits .xor .u32 t262 t263) t264) + (Go.bits .or .u32 (Go.bits .or .u32 (Go.bits .and .u32 x11_2 x12_2) (Go.bits .and .u32 x11_2 x13_2)) (Go.bits .and .u32 x12_2 x13_2))) % 4294967296)) % 4294967296) x11_2 x12_2 x13_2 ((x14_2 + ((((((((x18_2 + (Go.bits .xor .u32 (Go.bits .xor .u32 t257 t258) t259)) % 4294967296) + (Go.bits .or .u32 (Go.bits .and .u32 x15_2 x16_2) (Go.bits .and .u32 ((4294967295 - x15_2) % 4294967296) x17_2))) % 4294967296) + t260) % 4294967296) + (rd x5_1 x19_2)) % 4294967296)) % 4294967296) x15_2 x16_2 x17_2 (wrap64 (x19_2 + 1)))))) else (none)) else (none))))) = some r := H
                              have A39 := Aside0.mk A390
                              clear A390
                              replace H := Option.bind_eq_some_iff.mp H
                              obtain ⟨t258, A400, H⟩ := H
                              replace H : ((wristbandref01_Rot.f k2 x15_2 25).bind fun t259 => ((wristbandref02_constant.f x19_2).bind fun t260 => (if 0 ≤ x19_2 then (if x19_2 < (x5_1.length : Int) then ((wristbandref01_Rot.f k2 x11_2 2).bind fun t262 => ((wristbandref01_Rot.f k2 x11_2 13).bind fun t263 => ((wristbandref01_Rot.f k2 x11_2 22).bind fun t264 => (wristbandref02_Block.l1 k2 l0 x5_1 ((((((((((x18_2 + (Go.bits .xor .u32 (Go.bits .xor .u32 t257 t258) t259)) % 4294967296) + (Go.bits .or .u32 (Go.bits .and .u32 x15_2 x16_2) (Go.bits .and .u32 ((4294967295 - x15_2) % 4294967296) x17_2))) % 4294967296) + t260) % 4294967296) + (rd x5_1 x19_2)) % 4294967296) + (((Go.bits .xor .u32 (Go.bits .xor .u32 t262 t263) t264) + (Go.bits .or .u32 (Go.bits .or .u32 (Go.bits .and .u32 x11_2 x12_2) (Go.bits .and .u32 x11_2 x13_2)) (Go.bits .and .u32 x12_2 x13_2))) % 4294967296)) % 4294967296) x11_2 x12_2 x13_2 ((x14_2 + ((((((((x18_2 + (Go.bits .xor .u32 (Go.bits .xor .u32 t257 t258) t259)) % 4294967296) + (Go.bits .or .u32 (Go.bits .and .u32 x15_2 x16_2) (Go.bits .and .u32 ((4294967295 - x15_2) % 4294967296) x17_2))) % 4294967296) + t260) % 4294967296) + (rd x5_1 x19_2)) % 4294967296)) % 4294967296) x15_2 x16_2 x17_2 (wrap64 (x19_2 + 1)))))) else (none)) else (none)))) = some r := H
                              have A40 := Aside0.mk A400
                              clear A400
                              replace H := Option.bind_eq_some_iff.mp H
                              obtain ⟨t259, A410, H⟩ := H
                              replace H : ((wristbandref02_constant.f x19_2).bind fun t260 => (if 0 ≤ x19_2 then (if x19_2 < (x5_1.length : Int) then ((wristbandref01_Rot.f k2 x11_2 2).bind fun t262 => ((wristbandref01_Rot.f k2 x11_2 13).bind fun t263 => ((wristbandref01_Rot.f k2 x11_2 22).bind fun t264 => (wristbandref02_Block.l1 k2 l0 x5_1 ((((((((((x18_2 + (Go.bits .xor .u32 (Go.bits .xor .u32 t257 t258) t259)) % 4294967296) + (Go.bits .or .u32 (Go.bits .and .u32 x15_2 x16_2) (Go.bits .and .u32 ((4294967295 - x15_2) % 4294967296) x17_2))) % 4294967296) + t260) % 4294967296) + (rd x5_1 x19_2)) % 4294967296) + (((Go.bits .xor .u32 (Go.bits .xor .u32 t262 t263) t264) + (Go.bits .or .u32 (Go.bits .or .u32 (Go.bits .and .u32 x11_2 x12_2) (Go.bits .and .u32 x11_2 x13_2)) (Go.bits .and .u32 x12_2 x13_2))) % 4294967296)) % 4294967296) x11_2 x12_2 x13_2 ((x14_2 + ((((((((x18_2 + (Go.bits .xor .u32 (Go.bits .xor .u32 t257 t258) t259)) % 4294967296) + (Go.bits .or .u32 (Go.bits .and .u32 x15_2 x16_2) (Go.bits .and .u32 ((4294967295 - x15_2) % 4294967296) x17_2))) % 4294967296) + t260) % 4294967296) + (rd x5_1 x19_2)) % 4294967296)) % 4294967296) x15_2 x16_2 x17_2 (wrap64 (x19_2 + 1)))))) else (none)) else (none))) = some r := H
                              have A41 := Aside0.mk A410
                              clear A410
                              replace H := Option.bind_eq_some_iff.mp H
                              obtain ⟨t260, A420, H⟩ := H
                              replace H : (if 0 ≤ x19_2 then (if x19_2 < (x5_1.length : Int) then ((wristbandref01_Rot.f k2 x11_2 2).bind fun t262 => ((wristbandref01_Rot.f k2 x11_2 13).bind fun t263 => ((wristbandref01_Rot.f k2 x11_2 22).bind fun t264 => (wristbandref02_Block.l1 k2 l0 x5_1 ((((((((((x18_2 + (Go.bits .xor .u32 (Go.bits .xor .u32 t257 t258) t259)) % 4294967296) + (Go.bits .or .u32 (Go.bits .and .u32 x15_2 x16_2) (Go.bits .and .u32 ((4294967295 - x15_2) % 4294967296) x17_2))) % 4294967296) + t260) % 4294967296) + (rd x5_1 x19_2)) % 4294967296) + (((Go.bits .xor .u32 (Go.bits .xor .u32 t262 t263) t264) + (Go.bits .or .u32 (Go.bits .or .u32 (Go.bits .and .u32 x11_2 x12_2) (Go.bits .and .u32 x11_2 x13_2)) (Go.bits .and .u32 x12_2 x13_2))) % 4294967296)) % 4294967296) x11_2 x12_2 x13_2 ((x14_2 + ((((((((x18_2 + (Go.bits .xor .u32 (Go.bits .xor .u32 t257 t258) t259)) % 4294967296) + (Go.bits .or .u32 (Go.bits .and .u32 x15_2 x16_2) (Go.bits .and .u32 ((4294967295 - x15_2) % 4294967296) x17_2))) % 4294967296) + t260) % 4294967296) + (rd x5_1 x19_2)) % 4294967296)) % 4294967296) x15_2 x16_2 x17_2 (wrap64 (x19_2 + 1)))))) else (none)) else (none)) = some r := H
                              have A42 := Aside0.mk A420
                              clear A420
                              by_cases c43 : 0 ≤ x19_2
                              · rw [if_pos c43] at H
                                have c43b0 : decide (0 ≤ x19_2) = true := decide_eq_true c43
                                clear c43
                                by_cases c44 : x19_2 < (x5_1.length : Int)
                                · rw [if_pos c44] at H
                                  have c44b0 : decide (x19_2 < (x5_1.length : Int)) = true := decide_eq_true c44
                                  clear c44
                                  replace H := Option.bind_eq_some_iff.mp H
                                  obtain ⟨t262, A450, H⟩ := H
                                  replace H : ((wristbandref01_Rot.f k2 x11_2 13).bind fun t263 => ((wristbandref01_Rot.f k2 x11_2 22).bind fun t264 => (wristbandref02_Block.l1 k2 l0 x5_1 ((((((((((x18_2 + (Go.bits .xor .u32 (Go.bits .xor .u32 t257 t258) t259)) % 4294967296) + (Go.bits .or .u32 (Go.bits .and .u32 x15_2 x16_2) (Go.bits .and .u32 ((4294967295 - x15_2) % 4294967296) x17_2))) % 4294967296) + t260) % 4294967296) + (rd x5_1 x19_2)) % 4294967296) + (((Go.bits .xor .u32 (Go.bits .xor .u32 t262 t263) t264) + (Go.bits .or .u32 (Go.bits .or .u32 (Go.bits .and .u32 x11_2 x12_2) (Go.bits .and .u32 x11_2 x13_2)) (Go.bits .and .u32 x12_2 x13_2))) % 4294967296)) % 4294967296) x11_2 x12_2 x13_2 ((x14_2 + ((((((((x18_2 + (Go.bits .xor .u32 (Go.bits .xor .u32 t257 t258) t259)) % 4294967296) + (Go.bits .or .u32 (Go.bits .and .u32 x15_2 x16_2) (Go.bits .and .u32 ((4294967295 - x15_2) % 4294967296) x17_2))) % 4294967296) + t260) % 4294967296) + (rd x5_1 x19_2)) % 4294967296)) % 4294967296) x15_2 x16_2 x17_2 (wrap64 (x19_2 + 1))))) = some r := H
                                  have A45 := Aside0.mk A450
                                  clear A450
                                  replace H := Option.bind_eq_some_iff.mp H
                                  obtain ⟨t263, A460, H⟩ := H
                                  replace H : ((wristbandref01_Rot.f k2 x11_2 22).bind fun t264 => (wristbandref02_Block.l1 k2 l0 x5_1 ((((((((((x18_2 + (Go.bits .xor .u32 (Go.bits .xor .u32 t257 t258) t259)) % 4294967296) + (Go.bits .or .u32 (Go.bits .and .u32 x15_2 x16_2) (Go.bits .and .u32 ((4294967295 - x15_2) % 4294967296) x17_2))) % 4294967296) + t260) % 4294967296) + (rd x5_1 x19_2)) % 4294967296) + (((Go.bits .xor .u32 (Go.bits .xor .u32 t262 t263) t264) + (Go.bits .or .u32 (Go.bits .or .u32 (Go.bits .and .u32 x11_2 x12_2) (Go.bits .and .u32 x11_2 x13_2)) (Go.bits .and .u32 x12_2 x13_2))) % 4294967296)) % 4294967296) x11_2 x12_2 x13_2 ((x14_2 + ((((((((x18_2 + (Go.bits .xor .u32 (Go.bits .xor .u32 t257 t258) t259)) % 4294967296) + (Go.bits .or .u32 (Go.bits .and .u32 x15_2 x16_2) (Go.bits .and .u32 ((4294967295 - x15_2) % 4294967296) x17_2))) % 4294967296) + t260) % 4294967296) + (rd x5_1 x19_2)) % 4294967296)) % 4294967296) x15_2 x16_2 x17_2 (wrap64 (x19_2 + 1)))) = some r := H
                                  have A46 := Aside0.mk A460
                                  clear A460
                                  replace H := Option.bind_eq_some_iff.mp H
                                  obtain ⟨t264, A470, H⟩ := H
                                  replace H : (wristbandref02_Block.l1 k2 l0 x5_1 ((((((((((x18_2 + (Go.bits .xor .u32 (Go.bits .xor .u32 t257 t258) t259)) % 4294967296) + (Go.bits .or .u32 (Go.bits .and .u32 x15_2 x16_2) (Go.bits .and .u32 ((4294967295 - x15_2) % 4294967296) x17_2))) % 4294967296) + t260) % 4294967296) + (rd x5_1 x19_2)) % 4294967296) + (((Go.bits .xor .u32 (Go.bits .xor .u32 t262 t263) t264) + (Go.bits .or .u32 (Go.bits .or .u32 (Go.bits .and .u32 x11_2 x12_2) (Go.bits .and .u32 x11_2 x13_2)) (Go.bits .and .u32 x12_2 x13_2))) % 4294967296)) % 4294967296) x11_2 x12_2 x13_2 ((x14_2 + ((((((((x18_2 + (Go.bits .xor .u32 (Go.bits .xor .u32 t257 t258) t259)) % 4294967296) + (Go.bits .or .u32 (Go.bits .and .u32 x15_2 x16_2) (Go.bits .and .u32 ((4294967295 - x15_2) % 4294967296) x17_2))) % 4294967296) + t260) % 4294967296) + (rd x5_1 x19_2)) % 4294967296)) % 4294967296) x15_2 x16_2 x17_2 (wrap64 (x19_2 + 1))) = some r := H
                                  have A47 := Aside0.mk A470
                                  clear A470
                                  have H' := Aside0.mk H
                                  clear H
                                  try go_wp2_with (first | ((with_reducible refine gate_callee (f := 49) rfl ?_); refine goesL_ (some 105) rfl rfl Tryd.func49 (by kernel_rfl) rfl #[.int .u32 x15_2, .int .i64 6] rfl (by (try simp only [List.map_toArray, List.map_cons, List.map_nil]); first | done | rfl | (simp only [List.length_drop, List.length_take]; rfl)) ?_; (with_reducible refine (wristbandref01_Rot.calls k2 x15_2 6 t257 _ A39.out).mono ?_); rintro e w' ⟨rfl, ⟨nd, rfl⟩⟩; refine ⟨_, rfl, ?_⟩) | ((with_reducible refine gate_callee (f := 49) rfl ?_); refine goesL_ (some 107) rfl rfl Tryd.func49 (by kernel_rfl) rfl #[.int .u32 x15_2, .int .i64 11] rfl (by (try simp only [List.map_toArray, List.map_cons, List.map_nil]); first | done | rfl | (simp only [List.length_drop, List.length_take]; rfl)) ?_; (with_reducible refine (wristbandref01_Rot.calls k2 x15_2 11 t258 _ A40.out).mono ?_); rintro e w' ⟨rfl, ⟨nd, rfl⟩⟩; refine ⟨_, rfl, ?_⟩) | ((with_reducible refine gate_callee (f := 49) rfl ?_); refine goesL_ (some 110) rfl rfl Tryd.func49 (by kernel_rfl) rfl #[.int .u32 x15_2, .int .i64 25] rfl (by (try simp only [List.map_toArray, List.map_cons, List.map_nil]); first | done | rfl | (simp only [List.length_drop, List.length_take]; rfl)) ?_; (with_reducible refine (wristbandref01_Rot.calls k2 x15_2 25 t259 _ A41.out).mono ?_); rintro e w' ⟨rfl, ⟨nd, rfl⟩⟩; refine ⟨_, rfl, ?_⟩))
                                  (try (rw [drewN_self wr]; generalize hq_ : World.drewN wr _ = wr; have n0_ : Aside0 (Kd.R (Kd.int .u32) 22 wr w.heap.size (fun _ => True) u5 x5_1) := ⟨by rw [← hq_]; exact (by (with_reducible repeat (first | apply Kd.R_alloc | apply Kd.R_drewN | apply Kd.R_drew)); exact HO_5.out)⟩; have n1_ : Aside0 (Below w.heap.size w wr) := ⟨by rw [← hq_]; exact (by repeat (first | (with_reducible first | exact HB.out | apply below_alloc | apply pw_below_drewN | apply below_drew1) | exact HB.out))⟩; clear HO_5 HB hq_; have HO_5 := n0_; have HB := n1_; clear n0_ n1_))
                                  have n0_ := Aside0.mk (Kd.R_drew HO_5.out)
                                  have n1_ := Aside0.mk (below_drew1 HB.out)
                                  clear HO_5
                                  clear HB
                                  have HO_5 := n0_
                                  have HB := n1_
                                  clear n0_ n1_
                                  obtain ⟨Ao49, co49, eo49⟩ := Kd.R_slice HO_5.out
                                  (first | subst eo49 | (injection eo49 with f1_ f2_ f3_; have f4_ := f1_.symm; have f5_ := f3_.symm; clear f1_ f2_ f3_; subst f4_; subst f5_))
                                  have p261 : 0 ≤ (x19_2 : Int) := of_decide_eq_true (by first | (with_reducible assumption) | assumption)
                                  have q261 : x19_2 < (x5_1.length : Int) := of_decide_eq_true (by first | (with_reducible assumption) | assumption)
                                  obtain ⟨ad261, e261, hx261_0⟩ := Kd.at_int (Kd.R_reads' HO_5.out).2.2 x19_2 p261 q261
                                  cases e261
                                  replace p261 := eq_true p261
                                  replace q261 := eq_true q261
                                  refine start_ (n := 14) (S := fun w' => w'.cell? (ad261.add (x19_2).toNat) = some (.int .u32 (rd x5_1 x19_2))) (ds := []) #[false, false, false, false, false, false, false, false, false, false, false, false, false, false] (by kernel_rfl) rfl rfl (hx261_0) (fun hHeld => ?_); refine with_tabW wristbandref02_Block.tab17 wristbandref02_Block.bits17 (fun HT_ HW_ => ?_)
                                  generalize wr.drew = w48 at HO_5 HB hx261_0 hHeld ⊢
                                  refine pure_ (i := 0) (N := some 120) (v := ?_) (a' := ?_) #[true, false, false, false, false, false, false, false, false, false, false, false, false, false] rfl rfl (any_of HT_.out (by kernel_rfl)) (fun _ _ _ h => h) (Or.inl ⟨by rfl, ?_⟩) ?_ ?_
                                  rotate_left
                                  · intro w'
                                    go_simp
                                    with_reducible rfl
                                  rotate_left
                                  · simp only [Act.put, List.setIfInBounds_toArray, List.set_cons_zero, List.set_cons_succ, i64_w, i32_w]
                                    rfl
                                  refine pure_ (i := 1) (N := some 121) (v := ?_) (a' := ?_) #[true, true, false, false, false, false, false, false, false, false, false, false, false, false] rfl rfl (any_of HT_.out (by kernel_rfl)) (fun _ _ _ h => h) (Or.inl ⟨by rfl, ?_⟩) ?_ ?_
                                  rotate_left
                                  · intro w'
                                    go_simp
                                    with_reducible rfl
                                  rotate_left
                                  · simp only [Act.put, List.setIfInBounds_toArray, List.set_cons_zero, List.set_cons_succ, i64_w, i32_w]
                                    rfl
                                  refine pure_ (i := 2) (N := some 122) (v := ?_) (a' := ?_) #[true, true, true, false, false, false, false, false, false, false, false, false, false, false] rfl rfl (any_of HT_.out (by kernel_rfl)) (fun _ _ _ h => h) (Or.inl ⟨by rfl, ?_⟩) ?_ ?_
                                  rotate_left
                                  · intro w'
                                    go_simp
                                    with_reducible rfl
                                  rotate_left
                                  · simp only [Act.put, List.setIfInBounds_toArray, List.set_cons_zero, List.set_cons_succ, i64_w, i32_w]
                                    rfl
                                  refine pure_ (i := 3) (N := some 123) (v := ?_) (a' := ?_) #[true, true, true, true, false, false, false, false, false, false, false, false, false, false] rfl rfl (any_of HT_.out (by kernel_rfl)) (fun _ _ _ h => h) (Or.inl ⟨by rfl, ?_⟩) ?_ ?_
                                  rotate_left
                                  · intro w'
                                    go_simp
                                    with_reducible rfl
                                  rotate_left
                                  · simp only [Act.put, List.setIfInBounds_toArray, List.set_cons_zero, List.set_cons_succ, i64_w, i32_w]
                                    rfl
                                  refine pure_ (i := 4) (N := some 124) (v := ?_) (a' := ?_) #[true, true, true, true, true, false, false, false, false, false, false, false, false, false] rfl rfl (any_of HT_.out (by kernel_rfl)) (fun _ _ _ h => h) (Or.inl ⟨by rfl, ?_⟩) ?_ ?_
                                  rotate_left
                                  · intro w'
                                    go_simp
                                    with_reducible rfl
                                  rotate_left
                                  · simp only [Act.put, List.setIfInBounds_toArray, List.set_cons_zero, List.set_cons_succ, i64_w, i32_w]
                                    rfl
                                  refine pure_ (i := 5) (N := some 125) (v := ?_) (a' := ?_) #[true, true, true, true, true, true, false, false, false, false, false, false, false, false] rfl rfl (any_of HT_.out (by kernel_rfl)) (fun _ _ _ h => h) (Or.inl ⟨by rfl, ?_⟩) ?_ ?_
                                  rotate_left
                                  · intro w'
                                    go_simp
                                    with_reducible rfl
                                  rotate_left
                                  · simp only [Act.put, List.setIfInBounds_toArray, List.set_cons_zero, List.set_cons_succ, i64_w, i32_w]
                                    rfl
                                  refine pure_ (i := 8) (N := some 128) (v := ?_) (a' := ?_) #[true, true, true, true, true, true, false, false, true, false, false, false, false, false] rfl rfl (any_of HT_.out (by kernel_rfl)) (fun _ _ _ h => h) (Or.inl ⟨by rfl, ?_⟩) ?_ ?_
                                  rotate_left
                                  · intro w'
                                    go_simp
                                    with_reducible rfl
                                  rotate_left
                                  · simp only [Act.put, List.setIfInBounds_toArray, List.set_cons_zero, List.set_cons_succ, i64_w, i32_w]
                                    rfl
                                  refine pure_ (i := 9) (N := some 129) (v := ?_) (a' := ?_) #[true, true, true, true, true, true, false, false, true, true, false, false, false, false] rfl rfl (any_of HT_.out (by kernel_rfl)) (fun _ _ _ h => h) (Or.inl ⟨by rfl, ?_⟩) ?_ ?_
                                  rotate_left
                                  · intro w'
                                    go_simp
                                    with_reducible rfl
                                  rotate_left
                                  · simp only [Act.put, List.setIfInBounds_toArray, List.set_cons_zero, List.set_cons_succ, i64_w, i32_w]
                                    rfl
                                  refine pure_ (i := 10) (N := some 130) (v := ?_) (a' := ?_) #[true, true, true, true, true, true, false, false, true, true, true, false, false, false] rfl rfl (any_of HT_.out (by kernel_rfl)) (fun _ _ _ h => h) (Or.inl ⟨by rfl, ?_⟩) ?_ ?_
                                  rotate_left
                                  · intro w'
                                    go_simp
                                    with_reducible rfl
                                  rotate_left
                                  · simp only [Act.put, List.setIfInBounds_toArray, List.set_cons_zero, List.set_cons_succ, i64_w, i32_w]
                                    rfl
                                  refine take_ (i := 11) (N := some 131) (v := ?_) (a' := ?_) #[true, true, true, true, true, true, false, false, true, true, true, true, false, false] rfl rfl (take_ofW HT_.out HW_.out (by kernel_rfl)) (fun _ _ _ h => h) (Or.inl ⟨by rfl, ?_⟩) hHeld ?_ ?_
                                  rotate_left
                                  · intro w' s0
                                    go_simp
                                    with_reducible rfl
                                  rotate_left
                                  · simp only [Act.put, List.setIfInBounds_toArray, List.set_cons_zero, List.set_cons_succ, i64_w, i32_w]
                                    rfl
                                  refine one_ (i := 6) (N := some 126) #[true, true, true, true, true, true, true, false, true, true, true, true, false, false] rfl rfl (one_of HT_.out (by kernel_rfl)) (by decide) (fun K hK => ?_)
                                  refine goes_ Tryd.func51 (by kernel_rfl) rfl #[.int .i64 x19_2] (by first | rfl | (simp [Region.wanted, yielded, *]; done)) rfl rfl (by (try simp only [List.map_toArray, List.map_cons, List.map_nil]); first | done | rfl | (simp only [List.length_drop, List.length_take]; rfl)) ?_
                                  with_reducible refine (wristbandref02_constant.calls x19_2 t260 _ A42.out).mono ?_
                                  rintro e w50 ⟨rfl, hb⟩
                                  have HS0_ := (hb.cell (World.block_lt_of_cell? _ _ (hHeld))).trans (hHeld)
                                  refine ⟨_, rfl, ?_⟩
                                  have n0_ := Aside0.mk (Kd.R_below (by (with_reducible repeat (first | apply Kd.R_alloc | apply Kd.R_drewN | apply Kd.R_drew)); exact HO_5.out) hb)
                                  have n1_ := Aside0.mk (below_step (by repeat (first | (with_reducible first | exact HB.out | apply below_alloc | apply pw_below_drewN | apply below_drew1) | exact HB.out)) hb)
                                  clear HO_5
                                  clear HB
                                  have HO_5 := n0_
                                  have HB := n1_
                                  clear n0_ n1_
                                  (try clear hb)
                                  (try clear hb2)
                                  (try clear hk)
                                  (try clear hi)
                                  refine hK.out _ _ (HS0_) (fun hHeld => ?_)
                                  clear hK K
                                  refine norm_ (a' := ?_) ?_ ?_
                                  rotate_left
                                  · show Act.put _ (some 126) _ = _
                                    simp only [Act.put, List.setIfInBounds_toArray, List.set_cons_zero, List.set_cons_succ, i64_w, i32_w]
                                    rfl
                                  refine pure_ (i := 7) (N := some 127) (v := ?_) (a' := ?_) #[true, true, true, true, true, true, true, true, true, true, true, true, false, false] rfl rfl (any_of HT_.out (by kernel_rfl)) (fun _ _ _ h => h) (Or.inl ⟨by rfl, ?_⟩) ?_ ?_
                                  rotate_left
                                  · intro w'
                                    go_simp
                                    with_reducible rfl
                                  rotate_left
                                  · simp only [Act.put, List.setIfInBounds_toArray, List.set_cons_zero, List.set_cons_succ, i64_w, i32_w]
                                    rfl
                                  refine pure_ (i := 12) (N := some 132) (v := ?_) (a' := ?_) #[true, true, true, true, true, true, true, true, true, true, true, true, true, false] rfl rfl (any_of HT_.out (by kernel_rfl)) (fun _ _ _ h => h) (Or.inl ⟨by rfl, ?_⟩) ?_ ?_
                                  rotate_left
                                  · intro w'
                                    go_simp
                                    with_reducible rfl
                                  rotate_left
                                  · simp only [Act.put, List.setIfInBounds_toArray, List.set_cons_zero, List.set_cons_succ, i64_w, i32_w]
                                    rfl
                                  refine pure_ (i := 13) (N := some 22) (v := ?_) (a' := ?_) #[true, true, true, true, true, true, true, true, true, true, true, true, true, true] rfl rfl (any_of HT_.out (by kernel_rfl)) (fun _ _ _ h => h) (Or.inl ⟨by rfl, ?_⟩) ?_ ?_
                                  rotate_left
                                  · intro w'
                                    go_simp
                                    with_reducible rfl
                                  rotate_left
                                  · simp only [Act.put, List.setIfInBounds_toArray, List.set_cons_zero, List.set_cons_succ, i64_w, i32_w]
                                    rfl
                                  refine done_ (done_of HT_.out (by kernel_rfl)) ?_
                                  try go_wp2_with (first | ((with_reducible refine gate_callee (f := 49) rfl ?_); refine goesL_ (some 134) rfl rfl Tryd.func49 (by kernel_rfl) rfl #[.int .u32 x11_2, .int .i64 2] rfl (by (try simp only [List.map_toArray, List.map_cons, List.map_nil]); first | done | rfl | (simp only [List.length_drop, List.length_take]; rfl)) ?_; (with_reducible refine (wristbandref01_Rot.calls k2 x11_2 2 t262 _ A45.out).mono ?_); rintro e w' ⟨rfl, ⟨nd, rfl⟩⟩; refine ⟨_, rfl, ?_⟩) | ((with_reducible refine gate_callee (f := 49) rfl ?_); refine goesL_ (some 136) rfl rfl Tryd.func49 (by kernel_rfl) rfl #[.int .u32 x11_2, .int .i64 13] rfl (by (try simp only [List.map_toArray, List.map_cons, List.map_nil]); first | done | rfl | (simp only [List.length_drop, List.length_take]; rfl)) ?_; (with_reducible refine (wristbandref01_Rot.calls k2 x11_2 13 t263 _ A46.out).mono ?_); rintro e w' ⟨rfl, ⟨nd, rfl⟩⟩; refine ⟨_, rfl, ?_⟩) | ((with_reducible refine gate_callee (f := 49) rfl ?_); refine goesL_ (some 139) rfl rfl Tryd.func49 (by kernel_rfl) rfl #[.int .u32 x11_2, .int .i64 22] rfl (by (try simp only [List.map_toArray, List.map_cons, List.map_nil]); first | done | rfl | (simp only [List.length_drop, List.length_take]; rfl)) ?_; (with_reducible refine (wristbandref01_Rot.calls k2 x11_2 22 t264 _ A47.out).mono ?_); rintro e w' ⟨rfl, ⟨nd, rfl⟩⟩; refine ⟨_, rfl, ?_⟩))
                                  go_roundg k2
                                  case measure => have := HK1.out; have := HK2.out; omega
                                  case rel => exact ⟨((((((((((x18_2 + (Go.bits .xor .u32 (Go.bits .xor .u32 t257 t258) t259)) % 4294967296) + (Go.bits .or .u32 (Go.bits .and .u32 x15_2 x16_2) (Go.bits .and .u32 ((4294967295 - x15_2) % 4294967296) x17_2))) % 4294967296) + t260) % 4294967296) + (rd x5_1 x19_2)) % 4294967296) + (((Go.bits .xor .u32 (Go.bits .xor .u32 t262 t263) t264) + (Go.bits .or .u32 (Go.bits .or .u32 (Go.bits .and .u32 x11_2 x12_2) (Go.bits .and .u32 x11_2 x13_2)) (Go.bits .and .u32 x12_2 x13_2))) % 4294967296)) % 4294967296), (x11_2), (x12_2), (x13_2), ((x14_2 + ((((((((x18_2 + (Go.bits .xor .u32 (Go.bits .xor .u32 t257 t258) t259)) % 4294967296) + (Go.bits .or .u32 (Go.bits .and .u32 x15_2 x16_2) (Go.bits .and .u32 ((4294967295 - x15_2) % 4294967296) x17_2))) % 4294967296) + t260) % 4294967296) + (rd x5_1 x19_2)) % 4294967296)) % 4294967296), (x15_2), (x16_2), (x17_2), (wrap64 (x19_2 + 1)), (by first | rfl | (simp; done) | (simp [*]; done)), (by first | rfl | (simp; done) | (simp [*]; done)), (by first | rfl | (simp; done) | (simp [*]; done)), (by first | rfl | (simp; done) | (simp [*]; done)), (by first | rfl | (simp; done) | (simp [*]; done)), (by first | rfl | (simp; done) | (simp [*]; done)), (by first | rfl | (simp; done) | (simp [*]; done)), (by first | rfl | (simp; done) | (simp [*]; done)), (by first | rfl | (simp; done) | (simp [*]; done)), H', ⟨by have := HK1.out; have := HK2.out; omega⟩, ⟨by (with_reducible repeat (first | apply Kd.R_alloc | apply Kd.R_drewN | apply Kd.R_drew)); exact HO_5.out⟩, ⟨by repeat (first | (with_reducible first | exact HB.out | apply below_alloc | apply pw_below_drewN | apply below_drew1) | exact HB.out)⟩⟩
                                · rw [if_neg c44] at H
                                  exact absurd H (by simp)
                              · rw [if_neg c43] at H
                                exact absurd H (by simp)
                            · rw [if_neg c38] at H
                              have c38b0 : decide (x19_2 < 64) = false := decide_eq_false c38
                              clear c38
                              by_cases c51 : 0 < (l0.length : Int)
                              · rw [if_pos c51] at H
                                have c51b0 : decide (0 < (l0.length : Int)) = true := decide_eq_true c51
                                have c51b1 : decide (0 < l0.length) = true := decide_eq_true (by omega)
                                clear c51
                                by_cases c52 : 1 < (l0.length : Int)
                                · rw [if_pos c52] at H
                                  have c52b0 : decide (1 < (l0.length : Int)) = true := decide_eq_true c52
                                  have c52b1 : decide (1 < l0.length) = true := decide_eq_true (by omega)
                                  clear c52
                                  by_cases c53 : 2 < (l0.length : Int)
                                  · rw [if_pos c53] at H
                                    have c53b0 : decide (2 < (l0.length : Int)) = true := decide_eq_true c53
                                    have c53b1 : decide (2 < l0.length) = true := decide_eq_true (by omega)
                                    clear c53
                                    by_cases c54 : 3 < (l0.length : Int)
                                    · rw [if_pos c54] at H
                                      have c54b0 : decide (3 < (l0.length : Int)) = true := decide_eq_true c54
                                      have c54b1 : decide (3 < l0.length) = true := decide_eq_true (by omega)
                                      clear c54
                                      by_cases c55 : 4 < (l0.length : Int)
                                      · rw [if_pos c55] at H
                                        have c55b0 : decide (4 < (l0.length : Int)) = true := decide_eq_true c55
                                        have c55b1 : decide (4 < l0.length) = true := decide_eq_true (by omega)
                                        clear c55
                                        by_cases c56 : 5 < (l0.length : Int)
                                        · rw [if_pos c56] at H
                                          have c56b0 : decide (5 < (l0.length : Int)) = true := decide_eq_true c56
                                          have c56b1 : decide (5 < l0.length) = true := decide_eq_true (by omega)
                                          clear c56
                                          by_cases c57 : 6 < (l0.length : Int)
                                          · rw [if_pos c57] at H
                                            have c57b0 : decide (6 < (l0.length : Int)) = true := decide_eq_true c57
                                            have c57b1 : decide (6 < l0.length) = true := decide_eq_true (by omega)
                                            clear c57
                                            by_cases c58 : 7 < (l0.length : Int)
                                            · rw [if_pos c58] at H
                                              have c58b0 : decide (7 < (l0.length : Int)) = true := decide_eq_true c58
                                              have c58b1 : decide (7 < l0.length) = true := decide_eq_true (by omega)
                                              clear c58
                                              obtain ⟨y254, hy254⟩ : ∃ y_ : List Int, y_ = (([((rd l0 0) + x11_2) % 4294967296, ((rd l0 1) + x12_2) % 4294967296, ((rd l0 2) + x13_2) % 4294967296, ((rd l0 3) + x14_2) % 4294967296, ((rd l0 4) + x15_2) % 4294967296, ((rd l0 5) + x16_2) % 4294967296, ((rd l0 6) + x17_2) % 4294967296, ((rd l0 7) + x18_2) % 4294967296] : List Int)) := ⟨_, rfl⟩
                                              replace H : (some y254) = some r := by first | (rw [hy254]; with_reducible exact H) | (have H2_ := (Option.bind_some _ _).symm.trans H; rw [hy254]; with_reducible exact H2_) | (have H2_ := (Option.bind_some _ _).symm.trans H; with_reducible exact H2_) | with_reducible exact H | (rw [hy254]; exact H) | exact H
                                              have Ny254 := Aside0.mk hy254
                                              clear hy254
                                              obtain rfl := Option.some.inj H
                                              try go_wp2
                                              have n0_ := Aside0.mk (Kd.R_drew HO_5.out)
                                              have n1_ := Aside0.mk (below_drew1 HB.out)
                                              clear HO_5
                                              clear HB
                                              have HO_5 := n0_
                                              have HB := n1_
                                              clear n0_ n1_
                                              have p246 : 0 ≤ (0 : Int) := (by omega)
                                              have q246 : 0 < (l0.length : Int) := of_decide_eq_true (by first | (with_reducible assumption) | assumption)
                                              obtain ⟨ad246, e246, hx246_0⟩ := Kd.at_int HR0.out 0 p246 q246
                                              have hw246_0 := hx246_0
                                              (try rw [show ((0 : Int)).toNat = 0 from rfl] at hw246_0)
                                              (try rw [show 0 * 1 = 0 from rfl] at hw246_0)
                                              (try rw [Addr.add_zero'] at hw246_0)
                                              obtain rfl : ad238 = ad246 := (by injection e246)
                                              have qi246 : (0 < l0.length) = True := eq_true (by omega)
                                              (try rw [show ((0 : Int)).toNat = 0 from rfl] at hx246_0)
                                              (try rw [Addr.add_zero'] at hx246_0)
                                              replace hx246_0 := (HB.out.cell (World.block_lt_of_cell? w _ hx246_0)).trans hx246_0
                                              replace p246 := eq_true p246
                                              replace q246 := eq_true q246
                                              have p247 : 0 ≤ (1 : Int) := (by omega)
                                              have q247 : 1 < (l0.length : Int) := of_decide_eq_true (by first | (with_reducible assumption) | assumption)
                                              obtain ⟨ad247, e247, hx247_0⟩ := Kd.at_int HR0.out 1 p247 q247
                                              have hw247_0 := hx247_0
                                              (try rw [show ((1 : Int)).toNat = 1 from rfl] at hw247_0)
                                              (try rw [show 1 * 1 = 1 from rfl] at hw247_0)
                                              (try simp only [Nat.reduceMul, Nat.reduceEqDiff, Go.Addr.add, ↓reduceIte] at hw247_0)
                                              obtain rfl : ad238 = ad247 := (by injection e247)
                                              (try simp only [show (1 : Int).toNat = 1 from rfl, Nat.reduceMul, Nat.reduceEqDiff, Go.Addr.add, ↓reduceIte] at hx247_0)
                                              have qi247 : (1 < l0.length) = True := eq_true (by omega)
                                              (try rw [show ((1 : Int)).toNat = 1 from rfl] at hx247_0)
                                              replace hx247_0 := (HB.out.cell (World.block_lt_of_cell? w _ hx247_0)).trans hx247_0
                                              replace p247 := eq_true p247
                                              replace q247 := eq_true q247
                                              have p248 : 0 ≤ (2 : Int) := (by omega)
                                              have q248 : 2 < (l0.length : Int) := of_decide_eq_true (by first | (with_reducible assumption) | assumption)
                                              obtain ⟨ad248, e248, hx248_0⟩ := Kd.at_int HR0.out 2 p248 q248
                                              have hw248_0 := hx248_0
                                              (try rw [show ((2 : Int)).toNat = 2 from rfl] at hw248_0)
                                              (try rw [show 2 * 1 = 2 from rfl] at hw248_0)
                                              (try simp only [Nat.reduceMul, Nat.reduceEqDiff, Go.Addr.add, ↓reduceIte] at hw248_0)
                                              obtain rfl : ad238 = ad248 := (by injection e248)
                                              (try simp only [show (2 : Int).toNat = 2 from rfl, Nat.reduceMul, Nat.reduceEqDiff, Go.Addr.add, ↓reduceIte] at hx248_0)
                                              have qi248 : (2 < l0.length) = True := eq_true (by omega)
                                              (try rw [show ((2 : Int)).toNat = 2 from rfl] at hx248_0)
                                              replace hx248_0 := (HB.out.cell (World.block_lt_of_cell? w _ hx248_0)).trans hx248_0
                                              replace p248 := eq_true p248
                                              replace q248 := eq_true q248
                                              have p249 : 0 ≤ (3 : Int) := (by omega)
                                              have q249 : 3 < (l0.length : Int) := of_decide_eq_true (by first | (with_reducible assumption) | assumption)
                                              obtain ⟨ad249, e249, hx249_0⟩ := Kd.at_int HR0.out 3 p249 q249
                                              have hw249_0 := hx249_0
                                              (try rw [show ((3 : Int)).toNat = 3 from rfl] at hw249_0)
                                              (try rw [show 3 * 1 = 3 from rfl] at hw249_0)
                                              (try simp only [Nat.reduceMul, Nat.reduceEqDiff, Go.Addr.add, ↓reduceIte] at hw249_0)
                                              obtain rfl : ad238 = ad249 := (by injection e249)
                                              (try simp only [show (3 : Int).toNat = 3 from rfl, Nat.reduceMul, Nat.reduceEqDiff, Go.Addr.add, ↓reduceIte] at hx249_0)
                                              have qi249 : (3 < l0.length) = True := eq_true (by omega)
                                              (try rw [show ((3 : Int)).toNat = 3 from rfl] at hx249_0)
                                              replace hx249_0 := (HB.out.cell (World.block_lt_of_cell? w _ hx249_0)).trans hx249_0
                                              replace p249 := eq_true p249
                                              replace q249 := eq_true q249
                                              have p250 : 0 ≤ (4 : Int) := (by omega)
                                              have q250 : 4 < (l0.length : Int) := of_decide_eq_true (by first | (with_reducible assumption) | assumption)
                                              obtain ⟨ad250, e250, hx250_0⟩ := Kd.at_int HR0.out 4 p250 q250
                                              have hw250_0 := hx250_0
                                              (try rw [show ((4 : Int)).toNat = 4 from rfl] at hw250_0)
                                              (try rw [show 4 * 1 = 4 from rfl] at hw250_0)
                                              (try simp only [Nat.reduceMul, Nat.reduceEqDiff, Go.Addr.add, ↓reduceIte] at hw250_0)
                                              obtain rfl : ad238 = ad250 := (by injection e250)
                                              (try simp only [show (4 : Int).toNat = 4 from rfl, Nat.reduceMul, Nat.reduceEqDiff, Go.Addr.add, ↓reduceIte] at hx250_0)
                                              have qi250 : (4 < l0.length) = True := eq_true (by omega)
                                              (try rw [show ((4 : Int)).toNat = 4 from rfl] at hx250_0)
                                              replace hx250_0 := (HB.out.cell (World.block_lt_of_cell? w _ hx250_0)).trans hx250_0
                                              replace p250 := eq_true p250
                                              replace q250 := eq_true q250
                                              have p251 : 0 ≤ (5 : Int) := (by omega)
                                              have q251 : 5 < (l0.length : Int) := of_decide_eq_true (by first | (with_reducible assumption) | assumption)
                                              obtain ⟨ad251, e251, hx251_0⟩ := Kd.at_int HR0.out 5 p251 q251
                                              have hw251_0 := hx251_0
                                              (try rw [show ((5 : Int)).toNat = 5 from rfl] at hw251_0)
                                              (try rw [show 5 * 1 = 5 from rfl] at hw251_0)
                                              (try simp only [Nat.reduceMul, Nat.reduceEqDiff, Go.Addr.add, ↓reduceIte] at hw251_0)
                                              obtain rfl : ad238 = ad251 := (by injection e251)
                                              (try simp only [show (5 : Int).toNat = 5 from rfl, Nat.reduceMul, Nat.reduceEqDiff, Go.Addr.add, ↓reduceIte] at hx251_0)
                                              have qi251 : (5 < l0.length) = True := eq_true (by omega)
                                              (try rw [show ((5 : Int)).toNat = 5 from rfl] at hx251_0)
                                              replace hx251_0 := (HB.out.cell (World.block_lt_of_cell? w _ hx251_0)).trans hx251_0
                                              replace p251 := eq_true p251
                                              replace q251 := eq_true q251
                                              have p252 : 0 ≤ (6 : Int) := (by omega)
                                              have q252 : 6 < (l0.length : Int) := of_decide_eq_true (by first | (with_reducible assumption) | assumption)
                                              obtain ⟨ad252, e252, hx252_0⟩ := Kd.at_int HR0.out 6 p252 q252
                                              have hw252_0 := hx252_0
                                              (try rw [show ((6 : Int)).toNat = 6 from rfl] at hw252_0)
                                              (try rw [show 6 * 1 = 6 from rfl] at hw252_0)
                                              (try simp only [Nat.reduceMul, Nat.reduceEqDiff, Go.Addr.add, ↓reduceIte] at hw252_0)
                                              obtain rfl : ad238 = ad252 := (by injection e252)
                                              (try simp only [show (6 : Int).toNat = 6 from rfl, Nat.reduceMul, Nat.reduceEqDiff, Go.Addr.add, ↓reduceIte] at hx252_0)
                                              have qi252 : (6 < l0.length) = True := eq_true (by omega)
                                              (try rw [show ((6 : Int)).toNat = 6 from rfl] at hx252_0)
                                              replace hx252_0 := (HB.out.cell (World.block_lt_of_cell? w _ hx252_0)).trans hx252_0
                                              replace p252 := eq_true p252
                                              replace q252 := eq_true q252
                                              have p253 : 0 ≤ (7 : Int) := (by omega)
                                              have q253 : 7 < (l0.length : Int) := of_decide_eq_true (by first | (with_reducible assumption) | assumption)
                                              obtain ⟨ad253, e253, hx253_0⟩ := Kd.at_int HR0.out 7 p253 q253
                                              have hw253_0 := hx253_0
                                              (try rw [show ((7 : Int)).toNat = 7 from rfl] at hw253_0)
                                              (try rw [show 7 * 1 = 7 from rfl] at hw253_0)
                                              (try simp only [Nat.reduceMul, Nat.reduceEqDiff, Go.Addr.add, ↓reduceIte] at hw253_0)
                                              obtain rfl : ad238 = ad253 := (by injection e253)
                                              (try simp only [show (7 : Int).toNat = 7 from rfl, Nat.reduceMul, Nat.reduceEqDiff, Go.Addr.add, ↓reduceIte] at hx253_0)
                                              have qi253 : (7 < l0.length) = True := eq_true (by omega)
                                              (try rw [show ((7 : Int)).toNat = 7 from rfl] at hx253_0)
                                              replace hx253_0 := (HB.out.cell (World.block_lt_of_cell? w _ hx253_0)).trans hx253_0
                                              replace p253 := eq_true p253
                                              replace q253 := eq_true q253
                                              refine start_ (n := 42) (S := fun w' => w'.cell? ad238 = some (.int .u32 (rd l0 0)) ∧ w'.cell? ⟨ad238.block, ad238.off + 1, none⟩ = some (.int .u32 (rd l0 1)) ∧ w'.cell? ⟨ad238.block, ad238.off + 2, none⟩ = some (.int .u32 (rd l0 2)) ∧ w'.cell? ⟨ad238.block, ad238.off + 3, none⟩ = some (.int .u32 (rd l0 3)) ∧ w'.cell? ⟨ad238.block, ad238.off + 4, none⟩ = some (.int .u32 (rd l0 4)) ∧ w'.cell? ⟨ad238.block, ad238.off + 5, none⟩ = some (.int .u32 (rd l0 5)) ∧ w'.cell? ⟨ad238.block, ad238.off + 6, none⟩ = some (.int .u32 (rd l0 6)) ∧ w'.cell? ⟨ad238.block, ad238.off + 7, none⟩ = some (.int .u32 (rd l0 7))) (ds := []) #[false, false, false, false, false, false, false, false, false, false, false, false, false, false, false, false, false, false, false, false, false, false, false, false, false, false, false, false, false, false, false, false, false, false, false, false, false, false, false, false, false, false] (by kernel_rfl) rfl rfl ⟨((HB.out.cell (World.block_lt_of_cell? w _ hw246_0)).trans hw246_0), ((HB.out.cell (World.block_lt_of_cell? w _ hw247_0)).trans hw247_0), ((HB.out.cell (World.block_lt_of_cell? w _ hw248_0)).trans hw248_0), ((HB.out.cell (World.block_lt_of_cell? w _ hw249_0)).trans hw249_0), ((HB.out.cell (World.block_lt_of_cell? w _ hw250_0)).trans hw250_0), ((HB.out.cell (World.block_lt_of_cell? w _ hw251_0)).trans hw251_0), ((HB.out.cell (World.block_lt_of_cell? w _ hw252_0)).trans hw252_0), ((HB.out.cell (World.block_lt_of_cell? w _ hw253_0)).trans hw253_0)⟩ (fun hHeld => ?_); refine with_tabW wristbandref02_Block.tab29 wristbandref02_Block.bits29 (fun HT_ HW_ => ?_)
                                              generalize wr.drew = w59 at HO_5 HB hx246_0 hx247_0 hx248_0 hx249_0 hx250_0 hx251_0 hx252_0 hx253_0 hHeld ⊢
                                              refine pure_ (i := 0) (N := some 167) (v := ?_) (a' := ?_) #[true, false, false, false, false, false, false, false, false, false, false, false, false, false, false, false, false, false, false, false, false, false, false, false, false, false, false, false, false, false, false, false, false, false, false, false, false, false, false, false, false, false] rfl rfl (any_of HT_.out (by kernel_rfl)) (fun _ _ _ h => h) (Or.inl ⟨by rfl, ?_⟩) ?_ ?_
                                              rotate_left
                                              · intro w'
                                                go_simp
                                                with_reducible rfl
                                              rotate_left
                                              · simp only [Act.put, List.setIfInBounds_toArray, List.set_cons_zero, List.set_cons_succ, i64_w, i32_w]
                                                rfl
                                              refine pure_ (i := 1) (N := some 168) (v := ?_) (a' := ?_) #[true, true, false, false, false, false, false, false, false, false, false, false, false, false, false, false, false, false, false, false, false, false, false, false, false, false, false, false, false, false, false, false, false, false, false, false, false, false, false, false, false, false] rfl rfl (any_of HT_.out (by kernel_rfl)) (fun _ _ _ h => h) (Or.inl ⟨by rfl, ?_⟩) ?_ ?_
                                              rotate_left
                                              · intro w'
                                                go_simp
                                                with_reducible rfl
                                              rotate_left
                                              · simp only [Act.put, List.setIfInBounds_toArray, List.set_cons_zero, List.set_cons_succ, i64_w, i32_w]
                                                rfl
                                              refine pure_ (i := 3) (N := some 170) (v := ?_) (a' := ?_) #[true, true, false, true, false, false, false, false, false, false, false, false, false, false, false, false, false, false, false, false, false, false, false, false, false, false, false, false, false, false, false, false, false, false, false, false, false, false, false, false, false, false] rfl rfl (any_of HT_.out (by kernel_rfl)) (fun _ _ _ h => h) (Or.inl ⟨by rfl, ?_⟩) ?_ ?_
                                              rotate_left
                                              · intro w'
                                                go_simp
                                                with_reducible rfl
                                              rotate_left
                                              · simp only [Act.put, List.setIfInBounds_toArray, List.set_cons_zero, List.set_cons_succ, i64_w, i32_w]
                                                rfl
                                              refine pure_ (i := 5) (N := some 172) (v := ?_) (a' := ?_) #[true, true, false, true, false, true, false, false, false, false, false, false, false, false, false, false, false, false, false, false, false, false, false, false, false, false, false, false, false, false, false, false, false, false, false, false, false, false, false, false, false, false] rfl rfl (any_of HT_.out (by kernel_rfl)) (fun _ _ _ h => h) (Or.inl ⟨by rfl, ?_⟩) ?_ ?_
                                              rotate_left
                                              · intro w'
                                                go_simp
                                                with_reducible rfl
                                              rotate_left
                                              · simp only [Act.put, List.setIfInBounds_toArray, List.set_cons_zero, List.set_cons_succ, i64_w, i32_w]
                                                rfl
                                              refine pure_ (i := 6) (N := some 173) (v := ?_) (a' := ?_) #[true, true, false, true, false, true, true, false, false, false, false, false, false, false, false, false, false, false, false, false, false, false, false, false, false, false, false, false, false, false, false, false, false, false, false, false, false, false, false, false, false, false] rfl rfl (any_of HT_.out (by kernel_rfl)) (fun _ _ _ h => h) (Or.inl ⟨by rfl, ?_⟩) ?_ ?_
                                              rotate_left
                                              · intro w'
                                                go_simp
                                                with_reducible rfl
                                              rotate_left
                                              · simp only [Act.put, List.setIfInBounds_toArray, List.set_cons_zero, List.set_cons_succ, i64_w, i32_w]
                                                rfl
                                              refine pure_ (i := 8) (N := some 175) (v := ?_) (a' := ?_) #[true, true, false, true, false, true, true, false, true, false, false, false, false, false, false, false, false, false, false, false, false, false, false, false, false, false, false, false, false, false, false, false, false, false, false, false, false, false, false, false, false, false] rfl rfl (any_of HT_.out (by kernel_rfl)) (fun _ _ _ h => h) (Or.inl ⟨by rfl, ?_⟩) ?_ ?_
                                              rotate_left
                                              · intro w'
                                                go_simp
                                                with_reducible rfl
                                              rotate_left
                                              · simp only [Act.put, List.setIfInBounds_toArray, List.set_cons_zero, List.set_cons_succ, i64_w, i32_w]
                                                rfl
                                              refine pure_ (i := 10) (N := some 177) (v := ?_) (a' := ?_) #[true, true, false, true, false, true, true, false, true, false, true, false, false, false, false, false, false, false, false, false, false, false, false, false, false, false, false, false, false, false, false, false, false, false, false, false, false, false, false, false, false, false] rfl rfl (any_of HT_.out (by kernel_rfl)) (fun _ _ _ h => h) (Or.inl ⟨by rfl, ?_⟩) ?_ ?_
                                              rotate_left
                                              · intro w'
                                                go_simp
                                                with_reducible rfl
                                              rotate_left
                                              · simp only [Act.put, List.setIfInBounds_toArray, List.set_cons_zero, List.set_cons_succ, i64_w, i32_w]
                                                rfl
                                              refine pure_ (i := 11) (N := some 178) (v := ?_) (a' := ?_) #[true, true, false, true, false, true, true, false, true, false, true, true, false, false, false, false, false, false, false, false, false, false, false, false, false, false, false, false, false, false, false, false, false, false, false, false, false, false, false, false, false, false] rfl rfl (any_of HT_.out (by kernel_rfl)) (fun _ _ _ h => h) (Or.inl ⟨by rfl, ?_⟩) ?_ ?_
                                              rotate_left
                                              · intro w'
                                                go_simp
                                                with_reducible rfl
                                              rotate_left
                                              · simp only [Act.put, List.setIfInBounds_toArray, List.set_cons_zero, List.set_cons_succ, i64_w, i32_w]
                                                rfl
                                              refine pure_ (i := 13) (N := some 180) (v := ?_) (a' := ?_) #[true, true, false, true, false, true, true, false, true, false, true, true, false, true, false, false, false, false, false, false, false, false, false, false, false, false, false, false, false, false, false, false, false, false, false, false, false, false, false, false, false, false] rfl rfl (any_of HT_.out (by kernel_rfl)) (fun _ _ _ h => h) (Or.inl ⟨by rfl, ?_⟩) ?_ ?_
                                              rotate_left
                                              · intro w'
                                                go_simp
                                                with_reducible rfl
                                              rotate_left
                                              · simp only [Act.put, List.setIfInBounds_toArray, List.set_cons_zero, List.set_cons_succ, i64_w, i32_w]
                                                rfl
                                              refine pure_ (i := 15) (N := some 182) (v := ?_) (a' := ?_) #[true, true, false, true, false, true, true, false, true, false, true, true, false, true, false, true, false, false, false, false, false, false, false, false, false, false, false, false, false, false, false, false, false, false, false, false, false, false, false, false, false, false] rfl rfl (any_of HT_.out (by kernel_rfl)) (fun _ _ _ h => h) (Or.inl ⟨by rfl, ?_⟩) ?_ ?_
                                              rotate_left
                                              · intro w'
                                                go_simp
                                                with_reducible rfl
                                              rotate_left
                                              · simp only [Act.put, List.setIfInBounds_toArray, List.set_cons_zero, List.set_cons_succ, i64_w, i32_w]
                                                rfl
                                              refine pure_ (i := 16) (N := some 183) (v := ?_) (a' := ?_) #[true, true, false, true, false, true, true, false, true, false, true, true, false, true, false, true, true, false, false, false, false, false, false, false, false, false, false, false, false, false, false, false, false, false, false, false, false, false, false, false, false, false] rfl rfl (any_of HT_.out (by kernel_rfl)) (fun _ _ _ h => h) (Or.inl ⟨by rfl, ?_⟩) ?_ ?_
                                              rotate_left
                                              · intro w'
                                                go_simp
                                                with_reducible rfl
                                              rotate_left
                                              · simp only [Act.put, List.setIfInBounds_toArray, List.set_cons_zero, List.set_cons_succ, i64_w, i32_w]
                                                rfl
                                              refine pure_ (i := 18) (N := some 185) (v := ?_) (a' := ?_) #[true, true, false, true, false, true, true, false, true, false, true, true, false, true, false, true, true, false, true, false, false, false, false, false, false, false, false, false, false, false, false, false, false, false, false, false, false, false, false, false, false, false] rfl rfl (any_of HT_.out (by kernel_rfl)) (fun _ _ _ h => h) (Or.inl ⟨by rfl, ?_⟩) ?_ ?_
                                              rotate_left
                                              · intro w'
                                                go_simp
                                                with_reducible rfl
                                              rotate_left
                                              · simp only [Act.put, List.setIfInBounds_toArray, List.set_cons_zero, List.set_cons_succ, i64_w, i32_w]
                                                rfl
                                              refine pure_ (i := 20) (N := some 187) (v := ?_) (a' := ?_) #[true, true, false, true, false, true, true, false, true, false, true, true, false, true, false, true, true, false, true, false, true, false, false, false, false, false, false, false, false, false, false, false, false, false, false, false, false, false, false, false, false, false] rfl rfl (any_of HT_.out (by kernel_rfl)) (fun _ _ _ h => h) (Or.inl ⟨by rfl, ?_⟩) ?_ ?_
                                              rotate_left
                                              · intro w'
                                                go_simp
                                                with_reducible rfl
                                              rotate_left
                                              · simp only [Act.put, List.setIfInBounds_toArray, List.set_cons_zero, List.set_cons_succ, i64_w, i32_w]
                                                rfl
                                              refine pure_ (i := 21) (N := some 188) (v := ?_) (a' := ?_) #[true, true, false, true, false, true, true, false, true, false, true, true, false, true, false, true, true, false, true, false, true, true, false, false, false, false, false, false, false, false, false, false, false, false, false, false, false, false, false, false, false, false] rfl rfl (any_of HT_.out (by kernel_rfl)) (fun _ _ _ h => h) (Or.inl ⟨by rfl, ?_⟩) ?_ ?_
                                              rotate_left
                                              · intro w'
                                                go_simp
                                                with_reducible rfl
                                              rotate_left
                                              · simp only [Act.put, List.setIfInBounds_toArray, List.set_cons_zero, List.set_cons_succ, i64_w, i32_w]
                                                rfl
                                              refine pure_ (i := 23) (N := some 190) (v := ?_) (a' := ?_) #[true, true, false, true, false, true, true, false, true, false, true, true, false, true, false, true, true, false, true, false, true, true, false, true, false, false, false, false, false, false, false, false, false, false, false, false, false, false, false, false, false, false] rfl rfl (any_of HT_.out (by kernel_rfl)) (fun _ _ _ h => h) (Or.inl ⟨by rfl, ?_⟩) ?_ ?_
                                              rotate_left
                                              · intro w'
                                                go_simp
                                                with_reducible rfl
                                              rotate_left
                                              · simp only [Act.put, List.setIfInBounds_toArray, List.set_cons_zero, List.set_cons_succ, i64_w, i32_w]
                                                rfl
                                              refine pure_ (i := 25) (N := some 192) (v := ?_) (a' := ?_) #[true, true, false, true, false, true, true, false, true, false, true, true, false, true, false, true, true, false, true, false, true, true, false, true, false, true, false, false, false, false, false, false, false, false, false, false, false, false, false, false, false, false] rfl rfl (any_of HT_.out (by kernel_rfl)) (fun _ _ _ h => h) (Or.inl ⟨by rfl, ?_⟩) ?_ ?_
                                              rotate_left
                                              · intro w'
                                                go_simp
                                                with_reducible rfl
                                              rotate_left
                                              · simp only [Act.put, List.setIfInBounds_toArray, List.set_cons_zero, List.set_cons_succ, i64_w, i32_w]
                                                rfl
                                              refine pure_ (i := 26) (N := some 193) (v := ?_) (a' := ?_) #[true, true, false, true, false, true, true, false, true, false, true, true, false, true, false, true, true, false, true, false, true, true, false, true, false, true, true, false, false, false, false, false, false, false, false, false, false, false, false, false, false, false] rfl rfl (any_of HT_.out (by kernel_rfl)) (fun _ _ _ h => h) (Or.inl ⟨by rfl, ?_⟩) ?_ ?_
                                              rotate_left
                                              · intro w'
                                                go_simp
                                                with_reducible rfl
                                              rotate_left
                                              · simp only [Act.put, List.setIfInBounds_toArray, List.set_cons_zero, List.set_cons_succ, i64_w, i32_w]
                                                rfl
                                              refine pure_ (i := 28) (N := some 195) (v := ?_) (a' := ?_) #[true, true, false, true, false, true, true, false, true, false, true, true, false, true, false, true, true, false, true, false, true, true, false, true, false, true, true, false, true, false, false, false, false, false, false, false, false, false, false, false, false, false] rfl rfl (any_of HT_.out (by kernel_rfl)) (fun _ _ _ h => h) (Or.inl ⟨by rfl, ?_⟩) ?_ ?_
                                              rotate_left
                                              · intro w'
                                                go_simp
                                                with_reducible rfl
                                              rotate_left
                                              · simp only [Act.put, List.setIfInBounds_toArray, List.set_cons_zero, List.set_cons_succ, i64_w, i32_w]
                                                rfl
                                              refine pure_ (i := 30) (N := some 197) (v := ?_) (a' := ?_) #[true, true, false, true, false, true, true, false, true, false, true, true, false, true, false, true, true, false, true, false, true, true, false, true, false, true, true, false, true, false, true, false, false, false, false, false, false, false, false, false, false, false] rfl rfl (any_of HT_.out (by kernel_rfl)) (fun _ _ _ h => h) (Or.inl ⟨by rfl, ?_⟩) ?_ ?_
                                              rotate_left
                                              · intro w'
                                                go_simp
                                                with_reducible rfl
                                              rotate_left
                                              · simp only [Act.put, List.setIfInBounds_toArray, List.set_cons_zero, List.set_cons_succ, i64_w, i32_w]
                                                rfl
                                              refine pure_ (i := 31) (N := some 198) (v := ?_) (a' := ?_) #[true, true, false, true, false, true, true, false, true, false, true, true, false, true, false, true, true, false, true, false, true, true, false, true, false, true, true, false, true, false, true, true, false, false, false, false, false, false, false, false, false, false] rfl rfl (any_of HT_.out (by kernel_rfl)) (fun _ _ _ h => h) (Or.inl ⟨by rfl, ?_⟩) ?_ ?_
                                              rotate_left
                                              · intro w'
                                                go_simp
                                                with_reducible rfl
                                              rotate_left
                                              · simp only [Act.put, List.setIfInBounds_toArray, List.set_cons_zero, List.set_cons_succ, i64_w, i32_w]
                                                rfl
                                              refine pure_ (i := 33) (N := some 200) (v := ?_) (a' := ?_) #[true, true, false, true, false, true, true, false, true, false, true, true, false, true, false, true, true, false, true, false, true, true, false, true, false, true, true, false, true, false, true, true, false, true, false, false, false, false, false, false, false, false] rfl rfl (any_of HT_.out (by kernel_rfl)) (fun _ _ _ h => h) (Or.inl ⟨by rfl, ?_⟩) ?_ ?_
                                              rotate_left
                                              · intro w'
                                                go_simp
                                                with_reducible rfl
                                              rotate_left
                                              · simp only [Act.put, List.setIfInBounds_toArray, List.set_cons_zero, List.set_cons_succ, i64_w, i32_w]
                                                rfl
                                              refine pure_ (i := 35) (N := some 202) (v := ?_) (a' := ?_) #[true, true, false, true, false, true, true, false, true, false, true, true, false, true, false, true, true, false, true, false, true, true, false, true, false, true, true, false, true, false, true, true, false, true, false, true, false, false, false, false, false, false] rfl rfl (any_of HT_.out (by kernel_rfl)) (fun _ _ _ h => h) (Or.inl ⟨by rfl, ?_⟩) ?_ ?_
                                              rotate_left
                                              · intro w'
                                                go_simp
                                                with_reducible rfl
                                              rotate_left
                                              · simp only [Act.put, List.setIfInBounds_toArray, List.set_cons_zero, List.set_cons_succ, i64_w, i32_w]
                                                rfl
                                              refine pure_ (i := 36) (N := some 203) (v := ?_) (a' := ?_) #[true, true, false, true, false, true, true, false, true, false, true, true, false, true, false, true, true, false, true, false, true, true, false, true, false, true, true, false, true, false, true, true, false, true, false, true, true, false, false, false, false, false] rfl rfl (any_of HT_.out (by kernel_rfl)) (fun _ _ _ h => h) (Or.inl ⟨by rfl, ?_⟩) ?_ ?_
                                              rotate_left
                                              · intro w'
                                                go_simp
                                                with_reducible rfl
                                              rotate_left
                                              · simp only [Act.put, List.setIfInBounds_toArray, List.set_cons_zero, List.set_cons_succ, i64_w, i32_w]
                                                rfl
                                              refine pure_ (i := 38) (N := some 205) (v := ?_) (a' := ?_) #[true, true, false, true, false, true, true, false, true, false, true, true, false, true, false, true, true, false, true, false, true, true, false, true, false, true, true, false, true, false, true, true, false, true, false, true, true, false, true, false, false, false] rfl rfl (any_of HT_.out (by kernel_rfl)) (fun _ _ _ h => h) (Or.inl ⟨by rfl, ?_⟩) ?_ ?_
                                              rotate_left
                                              · intro w'
                                                go_simp
                                                with_reducible rfl
                                              rotate_left
                                              · simp only [Act.put, List.setIfInBounds_toArray, List.set_cons_zero, List.set_cons_succ, i64_w, i32_w]
                                                rfl
                                              refine take_ (i := 2) (N := some 169) (v := ?_) (a' := ?_) #[true, true, true, true, false, true, true, false, true, false, true, true, false, true, false, true, true, false, true, false, true, true, false, true, false, true, true, false, true, false, true, true, false, true, false, true, true, false, true, false, false, false] rfl rfl (take_ofW HT_.out HW_.out (by kernel_rfl)) (fun _ _ _ h => h) (Or.inl ⟨by rfl, ?_⟩) hHeld ?_ ?_
                                              rotate_left
                                              · rintro w' ⟨s0, s1, s2, s3, s4, s5, s6, s7⟩
                                                go_simp
                                                with_reducible rfl
                                              rotate_left
                                              · simp only [Act.put, List.setIfInBounds_toArray, List.set_cons_zero, List.set_cons_succ, i64_w, i32_w]
                                                rfl
                                              refine pure_ (i := 4) (N := some 171) (v := ?_) (a' := ?_) #[true, true, true, true, true, true, true, false, true, false, true, true, false, true, false, true, true, false, true, false, true, true, false, true, false, true, true, false, true, false, true, true, false, true, false, true, true, false, true, false, false, false] rfl rfl (any_of HT_.out (by kernel_rfl)) (fun _ _ _ h => h) (Or.inl ⟨by rfl, ?_⟩) ?_ ?_
                                              rotate_left
                                              · intro w'
                                                go_simp
                                                with_reducible rfl
                                              rotate_left
                                              · simp only [Act.put, List.setIfInBounds_toArray, List.set_cons_zero, List.set_cons_succ, i64_w, i32_w]
                                                rfl
                                              refine take_ (i := 7) (N := some 174) (v := ?_) (a' := ?_) #[true, true, true, true, true, true, true, true, true, false, true, true, false, true, false, true, true, false, true, false, true, true, false, true, false, true, true, false, true, false, true, true, false, true, false, true, true, false, true, false, false, false] rfl rfl (take_ofW HT_.out HW_.out (by kernel_rfl)) (fun _ _ _ h => h) (Or.inl ⟨by rfl, ?_⟩) hHeld ?_ ?_
                                              rotate_left
                                              · rintro w' ⟨s0, s1, s2, s3, s4, s5, s6, s7⟩
                                                go_simp
                                                with_reducible rfl
                                              rotate_left
                                              · simp only [Act.put, List.setIfInBounds_toArray, List.set_cons_zero, List.set_cons_succ, i64_w, i32_w]
                                                rfl
                                              refine pure_ (i := 9) (N := some 176) (v := ?_) (a' := ?_) #[true, true, true, true, true, true, true, true, true, true, true, true, false, true, false, true, true, false, true, false, true, true, false, true, false, true, true, false, true, false, true, true, false, true, false, true, true, false, true, false, false, false] rfl rfl (any_of HT_.out (by kernel_rfl)) (fun _ _ _ h => h) (Or.inl ⟨by rfl, ?_⟩) ?_ ?_
                                              rotate_left
                                              · intro w'
                                                go_simp
                                                with_reducible rfl
                                              rotate_left
                                              · simp only [Act.put, List.setIfInBounds_toArray, List.set_cons_zero, List.set_cons_succ, i64_w, i32_w]
                                                rfl
                                              refine take_ (i := 12) (N := some 179) (v := ?_) (a' := ?_) #[true, true, true, true, true, true, true, true, true, true, true, true, true, true, false, true, true, false, true, false, true, true, false, true, false, true, true, false, true, false, true, true, false, true, false, true, true, false, true, false, false, false] rfl rfl (take_ofW HT_.out HW_.out (by kernel_rfl)) (fun _ _ _ h => h) (Or.inl ⟨by rfl, ?_⟩) hHeld ?_ ?_
                                              rotate_left
                                              · rintro w' ⟨s0, s1, s2, s3, s4, s5, s6, s7⟩
                                                go_simp
                                                with_reducible rfl
                                              rotate_left
                                              · simp only [Act.put, List.setIfInBounds_toArray, List.set_cons_zero, List.set_cons_succ, i64_w, i32_w]
                                                rfl
                                              refine pure_ (i := 14) (N := some 181) (v := ?_) (a' := ?_) #[true, true, true, true, true, true, true, true, true, true, true, true, true, true, true, true, true, false, true, false, true, true, false, true, false, true, true, false, true, false, true, true, false, true, false, true, true, false, true, false, false, false] rfl rfl (any_of HT_.out (by kernel_rfl)) (fun _ _ _ h => h) (Or.inl ⟨by rfl, ?_⟩) ?_ ?_
                                              rotate_left
                                              · intro w'
                                                go_simp
                                                with_reducible rfl
                                              rotate_left
                                              · simp only [Act.put, List.setIfInBounds_toArray, List.set_cons_zero, List.set_cons_succ, i64_w, i32_w]
                                                rfl
                                              refine take_ (i := 17) (N := some 184) (v := ?_) (a' := ?_) #[true, true, true, true, true, true, true, true, true, true, true, true, true, true, true, true, true, true, true, false, true, true, false, true, false, true, true, false, true, false, true, true, false, true, false, true, true, false, true, false, false, false] rfl rfl (take_ofW HT_.out HW_.out (by kernel_rfl)) (fun _ _ _ h => h) (Or.inl ⟨by rfl, ?_⟩) hHeld ?_ ?_
                                              rotate_left
                                              · rintro w' ⟨s0, s1, s2, s3, s4, s5, s6, s7⟩
                                                go_simp
                                                with_reducible rfl
                                              rotate_left
                                              · simp only [Act.put, List.setIfInBounds_toArray, List.set_cons_zero, List.set_cons_succ, i64_w, i32_w]
                                                rfl
                                              refine pure_ (i := 19) (N := some 186) (v := ?_) (a' := ?_) #[true, true, true, true, true, true, true, true, true, true, true, true, true, true, true, true, true, true, true, true, true, true, false, true, false, true, true, false, true, false, true, true, false, true, false, true, true, false, true, false, false, false] rfl rfl (any_of HT_.out (by kernel_rfl)) (fun _ _ _ h => h) (Or.inl ⟨by rfl, ?_⟩) ?_ ?_
                                              rotate_left
                                              · intro w'
                                                go_simp
                                                with_reducible rfl
                                              rotate_left
                                              · simp only [Act.put, List.setIfInBounds_toArray, List.set_cons_zero, List.set_cons_succ, i64_w, i32_w]
                                                rfl
                                              refine take_ (i := 22) (N := some 189) (v := ?_) (a' := ?_) #[true, true, true, true, true, true, true, true, true, true, true, true, true, true, true, true, true, true, true, true, true, true, true, true, false, true, true, false, true, false, true, true, false, true, false, true, true, false, true, false, false, false] rfl rfl (take_ofW HT_.out HW_.out (by kernel_rfl)) (fun _ _ _ h => h) (Or.inl ⟨by rfl, ?_⟩) hHeld ?_ ?_
                                              rotate_left
                                              · rintro w' ⟨s0, s1, s2, s3, s4, s5, s6, s7⟩
                                                go_simp
                                                with_reducible rfl
                                              rotate_left
                                              · simp only [Act.put, List.setIfInBounds_toArray, List.set_cons_zero, List.set_cons_succ, i64_w, i32_w]
                                                rfl
                                              refine pure_ (i := 24) (N := some 191) (v := ?_) (a' := ?_) #[true, true, true, true, true, true, true, true, true, true, true, true, true, true, true, true, true, true, true, true, true, true, true, true, true, true, true, false, true, false, true, true, false, true, false, true, true, false, true, false, false, false] rfl rfl (any_of HT_.out (by kernel_rfl)) (fun _ _ _ h => h) (Or.inl ⟨by rfl, ?_⟩) ?_ ?_
                                              rotate_left
                                              · intro w'
                                                go_simp
                                                with_reducible rfl
                                              rotate_left
                                              · simp only [Act.put, List.setIfInBounds_toArray, List.set_cons_zero, List.set_cons_succ, i64_w, i32_w]
                                                rfl
                                              refine take_ (i := 27) (N := some 194) (v := ?_) (a' := ?_) #[true, true, true, true, true, true, true, true, true, true, true, true, true, true, true, true, true, true, true, true, true, true, true, true, true, true, true, true, true, false, true, true, false, true, false, true, true, false, true, false, false, false] rfl rfl (take_ofW HT_.out HW_.out (by kernel_rfl)) (fun _ _ _ h => h) (Or.inl ⟨by rfl, ?_⟩) hHeld ?_ ?_
                                              rotate_left
                                              · rintro w' ⟨s0, s1, s2, s3, s4, s5, s6, s7⟩
                                                go_simp
                                                with_reducible rfl
                                              rotate_left
                                              · simp only [Act.put, List.setIfInBounds_toArray, List.set_cons_zero, List.set_cons_succ, i64_w, i32_w]
                                                rfl
                                              refine pure_ (i := 29) (N := some 196) (v := ?_) (a' := ?_) #[true, true, true, true, true, true, true, true, true, true, true, true, true, true, true, true, true, true, true, true, true, true, true, true, true, true, true, true, true, true, true, true, false, true, false, true, true, false, true, false, false, false] rfl rfl (any_of HT_.out (by kernel_rfl)) (fun _ _ _ h => h) (Or.inl ⟨by rfl, ?_⟩) ?_ ?_
                                              rotate_left
                                              · intro w'
                                                go_simp
                                                with_reducible rfl
                                              rotate_left
                                              · simp only [Act.put, List.setIfInBounds_toArray, List.set_cons_zero, List.set_cons_succ, i64_w, i32_w]
                                                rfl
                                              refine take_ (i := 32) (N := some 199) (v := ?_) (a' := ?_) #[true, true, true, true, true, true, true, true, true, true, true, true, true, true, true, true, true, true, true, true, true, true, true, true, true, true, true, true, true, true, true, true, true, true, false, true, true, false, true, false, false, false] rfl rfl (take_ofW HT_.out HW_.out (by kernel_rfl)) (fun _ _ _ h => h) (Or.inl ⟨by rfl, ?_⟩) hHeld ?_ ?_
                                              rotate_left
                                              · rintro w' ⟨s0, s1, s2, s3, s4, s5, s6, s7⟩
                                                go_simp
                                                with_reducible rfl
                                              rotate_left
                                              · simp only [Act.put, List.setIfInBounds_toArray, List.set_cons_zero, List.set_cons_succ, i64_w, i32_w]
                                                rfl
                                              refine pure_ (i := 34) (N := some 201) (v := ?_) (a' := ?_) #[true, true, true, true, true, true, true, true, true, true, true, true, true, true, true, true, true, true, true, true, true, true, true, true, true, true, true, true, true, true, true, true, true, true, true, true, true, false, true, false, false, false] rfl rfl (any_of HT_.out (by kernel_rfl)) (fun _ _ _ h => h) (Or.inl ⟨by rfl, ?_⟩) ?_ ?_
                                              rotate_left
                                              · intro w'
                                                go_simp
                                                with_reducible rfl
                                              rotate_left
                                              · simp only [Act.put, List.setIfInBounds_toArray, List.set_cons_zero, List.set_cons_succ, i64_w, i32_w]
                                                rfl
                                              refine take_ (i := 37) (N := some 204) (v := ?_) (a' := ?_) #[true, true, true, true, true, true, true, true, true, true, true, true, true, true, true, true, true, true, true, true, true, true, true, true, true, true, true, true, true, true, true, true, true, true, true, true, true, true, true, false, false, false] rfl rfl (take_ofW HT_.out HW_.out (by kernel_rfl)) (fun _ _ _ h => h) (Or.inl ⟨by rfl, ?_⟩) hHeld ?_ ?_
                                              rotate_left
                                              · rintro w' ⟨s0, s1, s2, s3, s4, s5, s6, s7⟩
                                                go_simp
                                                with_reducible rfl
                                              rotate_left
                                              · simp only [Act.put, List.setIfInBounds_toArray, List.set_cons_zero, List.set_cons_succ, i64_w, i32_w]
                                                rfl
                                              refine pure_ (i := 39) (N := some 206) (v := ?_) (a' := ?_) #[true, true, true, true, true, true, true, true, true, true, true, true, true, true, true, true, true, true, true, true, true, true, true, true, true, true, true, true, true, true, true, true, true, true, true, true, true, true, true, true, false, false] rfl rfl (any_of HT_.out (by kernel_rfl)) (fun _ _ _ h => h) (Or.inl ⟨by rfl, ?_⟩) ?_ ?_
                                              rotate_left
                                              · intro w'
                                                go_simp
                                                with_reducible rfl
                                              rotate_left
                                              · simp only [Act.put, List.setIfInBounds_toArray, List.set_cons_zero, List.set_cons_succ, i64_w, i32_w]
                                                rfl
                                              refine one_ (i := 40) (N := some 207) #[true, true, true, true, true, true, true, true, true, true, true, true, true, true, true, true, true, true, true, true, true, true, true, true, true, true, true, true, true, true, true, true, true, true, true, true, true, true, true, true, true, false] rfl rfl (one_of HT_.out (by kernel_rfl)) (by decide) (fun K hK => ?_)
                                              refine Kd.R_lit_step (Kd.int .u32) _ 22 ?hg (N := 207) ?hd (xs := ([((rd l0 0) + x11_2) % 4294967296, ((rd l0 1) + x12_2) % 4294967296, ((rd l0 2) + x13_2) % 4294967296, ((rd l0 3) + x14_2) % 4294967296, ((rd l0 4) + x15_2) % 4294967296, ((rd l0 5) + x16_2) % 4294967296, ((rd l0 6) + x17_2) % 4294967296, ((rd l0 7) + x18_2) % 4294967296] : List Int)) (inner := [.int .u32 (((rd l0 0) + x11_2) % 4294967296), .int .u32 (((rd l0 1) + x12_2) % 4294967296), .int .u32 (((rd l0 2) + x13_2) % 4294967296), .int .u32 (((rd l0 3) + x14_2) % 4294967296), .int .u32 (((rd l0 4) + x15_2) % 4294967296), .int .u32 (((rd l0 5) + x16_2) % 4294967296), .int .u32 (((rd l0 6) + x17_2) % 4294967296), .int .u32 (((rd l0 7) + x18_2) % 4294967296)]) (ok := fun _ => True) (okp := fun _ => True) ?hr ?hp (fun _ hk => hk) trivial (Below.refl _ _) (Nat.le_refl _) (by simp) ?_; (case hd => rfl); (case hg => rfl); (case hr => first | (go_simp; done) | (go_simp; rfl)); (case hp => exact (Reps.one (show Kd.M (Kd.int .u32) _ _ _ (((rd l0 0) + x11_2) % 4294967296) [.int .u32 (((rd l0 0) + x11_2) % 4294967296)] from rfl) (Reps.one (show Kd.M (Kd.int .u32) _ _ _ (((rd l0 1) + x12_2) % 4294967296) [.int .u32 (((rd l0 1) + x12_2) % 4294967296)] from rfl) (Reps.one (show Kd.M (Kd.int .u32) _ _ _ (((rd l0 2) + x13_2) % 4294967296) [.int .u32 (((rd l0 2) + x13_2) % 4294967296)] from rfl) (Reps.one (show Kd.M (Kd.int .u32) _ _ _ (((rd l0 3) + x14_2) % 4294967296) [.int .u32 (((rd l0 3) + x14_2) % 4294967296)] from rfl) (Reps.one (show Kd.M (Kd.int .u32) _ _ _ (((rd l0 4) + x15_2) % 4294967296) [.int .u32 (((rd l0 4) + x15_2) % 4294967296)] from rfl) (Reps.one (show Kd.M (Kd.int .u32) _ _ _ (((rd l0 5) + x16_2) % 4294967296) [.int .u32 (((rd l0 5) + x16_2) % 4294967296)] from rfl) (Reps.one (show Kd.M (Kd.int .u32) _ _ _ (((rd l0 6) + x17_2) % 4294967296) [.int .u32 (((rd l0 6) + x17_2) % 4294967296)] from rfl) (Reps.one (show Kd.M (Kd.int .u32) _ _ _ (((rd l0 7) + x18_2) % 4294967296) [.int .u32 (((rd l0 7) + x18_2) % 4294967296)] from rfl) (Reps.none _ _))))))))))
                                              intro v255 w60 ho61 hb hg_ hnew_
                                              clear hg_ hnew_
                                              (first | rw [← Ny254.out] at ho61 | (simp only [Int.reduceToNat] at ho61; rw [← Ny254.out] at ho61))
                                              have n0_ := Aside0.mk (Kd.R_elder' (by (with_reducible repeat (first | apply Kd.R_alloc | apply Kd.R_drewN | apply Kd.R_drew)); exact HO_5.out) (Kd.R_base ho61) hb)
                                              have n1_ := Aside0.mk (Kd.R_lower (Kd.R_new' ho61 (Kd.R_lt (by (with_reducible repeat (first | apply Kd.R_alloc | apply Kd.R_drewN | apply Kd.R_drew)); exact HO_5.out))) (below_size (by repeat (first | (with_reducible first | exact HB.out | apply below_alloc | apply pw_below_drewN | apply below_drew1) | exact HB.out))))
                                              have n2_ := Aside0.mk (below_step (by repeat (first | (with_reducible first | exact HB.out | apply below_alloc | apply pw_below_drewN | apply below_drew1) | exact HB.out)) hb)
                                              clear HO_5
                                              clear HB
                                              have HO_5 := n0_
                                              have HO256 := n1_
                                              have HB := n2_
                                              clear n0_ n1_ n2_
                                              clear hb ho61
                                              refine hK.out _ _ ⟨((HB.out.cell (World.block_lt_of_cell? w _ hw246_0)).trans hw246_0), ((HB.out.cell (World.block_lt_of_cell? w _ hw247_0)).trans hw247_0), ((HB.out.cell (World.block_lt_of_cell? w _ hw248_0)).trans hw248_0), ((HB.out.cell (World.block_lt_of_cell? w _ hw249_0)).trans hw249_0), ((HB.out.cell (World.block_lt_of_cell? w _ hw250_0)).trans hw250_0), ((HB.out.cell (World.block_lt_of_cell? w _ hw251_0)).trans hw251_0), ((HB.out.cell (World.block_lt_of_cell? w _ hw252_0)).trans hw252_0), ((HB.out.cell (World.block_lt_of_cell? w _ hw253_0)).trans hw253_0)⟩ (fun hHeld => ?_)
                                              clear hK K
                                              refine norm_ (a' := ?_) ?_ ?_
                                              rotate_left
                                              · show Act.put _ (some 207) _ = _
                                                simp only [Act.put, List.setIfInBounds_toArray, List.set_cons_zero, List.set_cons_succ, i64_w, i32_w]
                                                rfl
                                              refine pure_ (i := 41) (N := some 4) (v := ?_) (a' := ?_) #[true, true, true, true, true, true, true, true, true, true, true, true, true, true, true, true, true, true, true, true, true, true, true, true, true, true, true, true, true, true, true, true, true, true, true, true, true, true, true, true, true, true] rfl rfl (any_of HT_.out (by kernel_rfl)) (fun _ _ _ h => h) (Or.inl ⟨by rfl, ?_⟩) ?_ ?_
                                              rotate_left
                                              · intro w'
                                                go_simp
                                                with_reducible rfl
                                              rotate_left
                                              · simp only [Act.put, List.setIfInBounds_toArray, List.set_cons_zero, List.set_cons_succ, i64_w, i32_w]
                                                rfl
                                              refine done_ (done_of HT_.out (by kernel_rfl)) ?_
                                              try go_wp2
                                              go_ret
                                              exact ⟨_, by first | rfl | (simp [errW_none, errW_some] <;> rfl) | (simp [*, errW_none, errW_some] <;> rfl), by (with_reducible repeat (first | apply Kd.R_alloc | apply Kd.R_drewN | apply Kd.R_drew)); exact Kd.R_mono HO256.out (fun _ hk => trivial), by repeat (first | (with_reducible first | exact HB.out | apply below_alloc | apply pw_below_drewN | apply below_drew1) | exact HB.out)⟩
                                            · rw [if_neg c58] at H
                                              exact absurd H (by simp)
                                          · rw [if_neg c57] at H
                                            exact absurd H (by simp)
                                        · rw [if_neg c56] at H
                                          exact absurd H (by simp)
                                      · rw [if_neg c55] at H
                                        exact absurd H (by simp)
                                    · rw [if_neg c54] at H
                                      exact absurd H (by simp)
                                  · rw [if_neg c53] at H
                                    exact absurd H (by simp)
                                · rw [if_neg c52] at H
                                  exact absurd H (by simp)
                              · rw [if_neg c51] at H
                                exact absurd H (by simp)
                      · rw [if_neg c35] at H
                        exact absurd H (by simp)
                    · rw [if_neg c34] at H
                      exact absurd H (by simp)
                  · rw [if_neg c33] at H
                    exact absurd H (by simp)
                · rw [if_neg c32] at H
                  exact absurd H (by simp)
              · rw [if_neg c31] at H
                exact absurd H (by simp)
            · rw [if_neg c30] at H
              exact absurd H (by simp)
          · rw [if_neg c29] at H
            exact absurd H (by simp)
        · rw [if_neg c28] at H
          exact absurd H (by simp)

end Go.Proofs.YtnpkhkhlofkbhaaDoor.PShaRight
