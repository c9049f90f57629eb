import Derived.Test.YtnpkhkhlofkbhaaDoorPShaRightx0
import Derived.Test.YtnpkhkhlofkbhaaDoorPShaRightx1
import Derived.Test.YtnpkhkhlofkbhaaDoorPShaRightx3
import Derived.Test.YtnpkhkhlofkbhaaDoorPShaRightx4
import Derived.Test.YtnpkhkhlofkbhaaDoorPShaRightx5
import Derived.Test.YtnpkhkhlofkbhaaDoorPShaRightx6
import Derived.Test.YtnpkhkhlofkbhaaDoorPShaRightx7
namespace Go.Proofs.YtnpkhkhlofkbhaaDoor.PShaRight
open Go.RowKit Go.Proofs.YtnpkhkhlofkbhaaDoorW.PrintWords Go.Proofs.YtnpkhkhlofkbhaaDoorW.PrintLast Go.Proofs.YtnpkhkhlofkbhaaDoorW.PrintMore
set_option linter.unusedVariables false
set_option linter.unusedSimpArgs false
attribute [local go_sem high] eqA23
theorem sr.two (w : World) (o1 o2 : Obj) : ((w.alloc o1).alloc o2).heap[w.heap.size]? = some o1 ∧ ((w.alloc o1).alloc o2).heap[w.heap.size + 1]? = some o2 ∧ Below w.heap.size w ((w.alloc o1).alloc o2) := by
  refine ⟨blk_alloc (blk_new w o1) _, ?_, ((Below.refl _ _).alloc (Nat.le_refl _) o1).alloc (by rw [alloc_size']; omega) o2⟩
  have := blk_new (w.alloc o1) o2
  rwa [alloc_size'] at this
theorem sr.c8 {W : World} {g t : Nat} {a0 a1 a2 a3 a4 a5 a6 a7 : Value} (h : W.heap[g]? = some (.cells #[a0, a1, a2, a3, a4, a5, a6, a7] t (0, 0))) : W.cell? ⟨g, 0, none⟩ = some a0 ∧ W.cell? ⟨g, 1, none⟩ = some a1 ∧ W.cell? ⟨g, 2, none⟩ = some a2 ∧ W.cell? ⟨g, 3, none⟩ = some a3 ∧ W.cell? ⟨g, 4, none⟩ = some a4 ∧ W.cell? ⟨g, 5, none⟩ = some a5 ∧ W.cell? ⟨g, 6, none⟩ = some a6 ∧ W.cell? ⟨g, 7, none⟩ = some a7 :=
  ⟨(blk_cell h 0).trans rfl, (blk_cell h 1).trans rfl, (blk_cell h 2).trans rfl, (blk_cell h 3).trans rfl, (blk_cell h 4).trans rfl, (blk_cell h 5).trans rfl, (blk_cell h 6).trans rfl, (blk_cell h 7).trans rfl⟩
theorem sr.c10 {W : World} {g t : Nat} {a0 a1 a2 a3 a4 a5 a6 a7 a8 a9 : Value} (h : W.heap[g]? = some (.cells #[a0, a1, a2, a3, a4, a5, a6, a7, a8, a9] t (0, 0))) : W.cell? ⟨g, 0, none⟩ = some a0 ∧ W.cell? ⟨g, 1, none⟩ = some a1 ∧ W.cell? ⟨g, 2, none⟩ = some a2 ∧ W.cell? ⟨g, 3, none⟩ = some a3 ∧ W.cell? ⟨g, 4, none⟩ = some a4 ∧ W.cell? ⟨g, 5, none⟩ = some a5 ∧ W.cell? ⟨g, 6, none⟩ = some a6 ∧ W.cell? ⟨g, 7, none⟩ = some a7 ∧ W.cell? ⟨g, 8, none⟩ = some a8 ∧ W.cell? ⟨g, 9, none⟩ = some a9 :=
  ⟨(blk_cell h 0).trans rfl, (blk_cell h 1).trans rfl, (blk_cell h 2).trans rfl, (blk_cell h 3).trans rfl, (blk_cell h 4).trans rfl, (blk_cell h 5).trans rfl, (blk_cell h 6).trans rfl, (blk_cell h 7).trans rfl, (blk_cell h 8).trans rfl, (blk_cell h 9).trans rfl⟩
theorem sr.str {W : World} {A : Option Addr} {c : Nat} {l : List Int} (h : Kd.C (Kd.int .u8) W A l.length l) : (convert 24 9 (.slice A l.length c)).run Tryd.prog W = .ok (.string (strOfNums l)) W :=
  Kd.C_string Tryd.underlying24 Tryd.underlying5 Tryd.underlying9 h
theorem sr.cut (A : Option Addr) (c : Nat) (y mr : List Int) (ji : Int) (h0 : 0 ≤ ji) (h1 : ji ≤ (y.length : Int)) (hm : mr = y.drop ji.toNat) (hc : y.length ≤ c) : ∃ (A' : Option Addr) (c' : Nat), (∀ W : World, (Instr.slice 24 (.slice A y.length c) (some (.int .i64 ji)) none none).run Tryd.prog W = .ok (.slice A' mr.length c') W) ∧ ∀ W : World, Kd.C (Kd.int .u8) W A y.length y → Kd.C (Kd.int .u8) W A' mr.length mr := by
  obtain ⟨i0, hi0, _, hsz, _⟩ := info_parts info5
  have h := cut_from (P := Tryd.prog) 24 5 .i64 Tryd.underlying24 hi0 1 hsz A y.length c ji h0 h1
  subst hm
  refine ⟨_, c - ji.toNat, fun W => ?_, fun W hC => Kd.C_drop (m := ji.toNat) (c := c) hC (by omega) hc⟩
  rw [h W, List.length_drop]
  rfl
theorem sr.zero : ∀ j : Nat, j < 8 → (#[.int .u32 0, .int .u32 0, .int .u32 0, .int .u32 0, .int .u32 0, .int .u32 0, .int .u32 0, .int .u32 0, .slice none 0 0, .int .u64 0] : Array Value)[j]? = some (.int .u32 0)
  | 0, _ => rfl
  | 1, _ => rfl
  | 2, _ => rfl
  | 3, _ => rfl
  | 4, _ => rfl
  | 5, _ => rfl
  | 6, _ => rfl
  | 7, _ => rfl
theorem sr.set1 {cs : Array Value} (h : ∀ j, j < 8 → ∃ a : Int, cs[j]? = some (.int .u32 a)) (i : Nat) (x : Int) : ∀ j, j < 8 → ∃ a : Int, (cs.setIfInBounds i (.int .u32 x))[j]? = some (.int .u32 a) := by
  intro j hj
  obtain ⟨a, ha⟩ := h j hj
  by_cases e : i = j
  · subst e
    exact ⟨x, by rw [Array.getElem?_setIfInBounds, if_pos rfl]; rw [if_pos (Array.getElem?_eq_some_iff.1 ha).1]⟩
  · exact ⟨a, by rw [Array.getElem?_setIfInBounds, if_neg e]; exact ha⟩
theorem sr.set2 {cs : Array Value} {i : Nat} {la : List Int} (h8 : ∀ j, j < 8 → ∃ a : Int, cs[j]? = some (.int .u32 a)) (h : ∀ j : Nat, j < i → cs[j]? = some (.int .u32 (rd la (j : Int)))) (hi : i < 8) : ∀ j : Nat, j < i + 1 → (cs.setIfInBounds i (.int .u32 (rd la (i : Int))))[j]? = some (.int .u32 (rd la (j : Int))) := by
  intro j hj
  by_cases e : i = j
  · subst e
    obtain ⟨a, ha⟩ := h8 i hi
    rw [Array.getElem?_setIfInBounds, if_pos rfl, if_pos (Array.getElem?_eq_some_iff.1 ha).1]
  · rw [Array.getElem?_setIfInBounds, if_neg e]; exact h j (by omega)
def sr.T26 : Bool × List (List Nat × List Nat) := (true, [([], []), ([0], [0]), ([1], [1]), ([2], [2]), ([3, 2], [2, 3]), ([2, 4], [2, 4]), ([5, 2], [5]), ([6], [6]), ([7, 6], [6, 7]), ([6, 8], [6, 8]), ([9, 6], [9]), ([10], [10]), ([11, 10], [10, 11]), ([10], [10]), ([13, 10], [10, 13]), ([14, 10, 10], [10, 14]), ([10], [10]), ([15, 16, 15, 10], [10, 15, 16]), ([12, 17, 17, 10], [10, 12, 17]), ([10, 18], [10, 18]), ([19, 18], [19]), ([20], [20]), ([21, 20], [20, 21]), ([22, 20], [20, 22]), ([20], [20]), ([20], [20]), ([25, 20], [20, 25]), ([26, 20], [20, 26]), ([27, 20], [20, 27]), ([24, 28, 20], [20, 24, 28]), ([29, 20], [20, 29]), ([23, 30, 20], [20, 23, 30]), ([20, 31], [20, 31]), ([32, 20], [32]), ([33], [33]), ([34, 33], [33, 34]), ([33], [33]), ([36, 33], [33, 36]), ([33], [33]), ([38, 33], [33, 38]), ([39, 33], [33, 39]), ([37, 40, 33], [33, 37, 40]), ([35, 41, 33], [33, 35, 41]), ([33, 42], [33, 42]), ([43, 33], [43]), ([44], [44]), ([45, 44], [44, 45]), ([46, 44], [44, 46]), ([44, 47], [44, 47]), ([48, 44], [48]), ([49], [49]), ([50, 49], [49, 50]), ([49], [49]), ([52, 49], [49, 52]), ([51, 53, 49], [49, 51, 53]), ([49, 54], [49, 54]), ([55, 49], [55]), ([56], [56]), ([57, 56, 56], [56, 57]), ([56], [56]), ([59, 56], [56, 59]), ([60, 56], [56, 60]), ([58, 61, 56], [56, 58, 61]), ([56, 62], [56, 62]), ([63, 58], [63]), ([64], [64]), ([65, 64, 64], [64, 65]), ([64], [64]), ([67, 64], [64, 67]), ([68, 64], [64, 68]), ([66, 69, 64], [64, 66, 69]), ([64, 70], [64, 70]), ([71, 66], [71]), ([72], [72]), ([73, 72], [72, 73]), ([72], [72]), ([75, 72, 72], [72, 75]), ([76, 72], [72, 76]), ([74, 77, 72], [72, 74, 77]), ([72, 78], [72, 78]), ([79, 76, 0, 1, 2, 3, 4, 5, 6, 7, 8, 9, 10, 11, 12, 13, 14, 15, 16, 17, 18, 19, 20, 21, 22, 23, 24, 25, 26, 27, 28, 29, 30, 31, 32, 33, 34, 35, 36, 37, 38, 39, 40, 41, 42, 43, 44, 45, 46, 47, 48, 49, 50, 51, 52, 53, 54, 55, 56, 57, 58, 59, 60, 61, 62, 63, 64, 65, 66, 67, 68, 69, 70, 71, 72, 73, 74, 75, 76, 77, 78, 79], [79])])
def sr.B26 : List Nat := [0, 1, 3, 7, 15, 31, 63, 127, 255, 511, 1023, 2047, 4095, 2047, 10239, 26623, 2047, 124927, 262143, 524287, 1048575, 2097151, 4194303, 8388607, 2097151, 2097151, 35651583, 102760447, 236978175, 522190847, 1059061759, 2147483647, 4294967295, 8589934591, 17179869183, 34359738367, 17179869183, 85899345919, 17179869183, 292057776127, 841813590015, 2147483647999, 4398046511103, 8796093022207, 17592186044415, 35184372088831, 70368744177663, 140737488355327, 281474976710655, 562949953421311, 1125899906842623, 2251799813685247, 1125899906842623, 5629499534213119, 18014398509481983, 36028797018963967, 72057594037927935, 144115188075855871, 288230376151711743, 144115188075855871, 720575940379279359, 1873497444986126335, 4611686018427387903, 9223372036854775807, 18446744073709551615, 36893488147419103231, 73786976294838206463, 36893488147419103231, 184467440737095516159, 479615345916448342015, 1180591620717411303423, 2361183241434822606847, 4722366482869645213695, 9444732965739290427391, 18889465931478580854783, 9444732965739290427391, 47223664828696452136959, 122781528554610775556095, 302231454903657293676543, 604462909807314587353087, 1208925819614629174706175]
theorem sr.tab26 : rtab .any (opsOf Tryd.f3 26) = sr.T26 := by kernel_rfl
theorem sr.bits26 : waitsOk sr.T26.2 sr.B26 = true := by kernel_rfl
set_option maxHeartbeats 16000000 in
set_option maxRecDepth 100000 in
theorem sr.long (k : Nat) (si0 si1 si2 si3 si4 si5 si6 si7 : Int) (A1 : Option Addr) (c1 : Nat) (l1 : List Int) (h0 h1 h2 h3 h4 h5 h6 h7 : Int) (A2 : Option Addr) (c2 : Nat) (l2 : List Int) (m : Int) (w : World) (hr1 : Kd.C (Kd.int .u8) w A1 l1.length l1) (hc1 : l1.length ≤ c1) (hr2 : Kd.C (Kd.int .u8) w A2 l2.length l2) (hc2 : l2.length ≤ c2) (hL0 : Kd.C (Kd.int .u32) w (some ⟨0, 0, none⟩) 64 shaK) (hL1 : Kd.C (Kd.int .u32) w (some ⟨1, 0, none⟩) 8 shaF) (haw : wristbandlaw02_awake.f k = some true) (hl : 2000 < l1.length ∨ 2000 < l2.length) :
    Calls Tryd.prog 3 #[.agg #[.int .u32 si0, .int .u32 si1, .int .u32 si2, .int .u32 si3, .int .u32 si4, .int .u32 si5, .int .u32 si6, .int .u32 si7], .slice A1 l1.length c1, .agg #[.int .u32 h0, .int .u32 h1, .int .u32 h2, .int .u32 h3, .int .u32 h4, .int .u32 h5, .int .u32 h6, .int .u32 h7, .slice A2 l2.length c2, .int .u64 m]] w fun e w' => e = .returned (.bool true) ∧ Below w.heap.size w w' := by
  have HD : Aside0 (2000 < l1.length ∨ 2000 < l2.length) := ⟨hl⟩
  clear hl
  have HR1 := Aside0.mk hr1; have HC1 := Aside0.mk hc1; have HR2 := Aside0.mk hr2; have HC2 := Aside0.mk hc2; have HL0 := Aside0.mk hL0; have HL1 := Aside0.mk hL1; have HAW := Aside0.mk haw
  clear hr1 hc1 hr2 hc2 hL0 hL1 haw
  go_enter Tryd.func3, Tryd.ntmps3
  go_upto_region 1 with fail
  obtain ⟨bs, bh, hb⟩ := sr.two w (.cells #[.int .u32 si0, .int .u32 si1, .int .u32 si2, .int .u32 si3, .int .u32 si4, .int .u32 si5, .int .u32 si6, .int .u32 si7] 23) (.cells #[.int .u32 h0, .int .u32 h1, .int .u32 h2, .int .u32 h3, .int .u32 h4, .int .u32 h5, .int .u32 h6, .int .u32 h7, .slice A2 l2.length c2, .int .u64 m] 27)
  have BS := Aside0.mk bs; have BH := Aside0.mk bh; have HB := Aside0.mk hb
  clear bs bh hb
  generalize (w.alloc (.cells #[.int .u32 si0, .int .u32 si1, .int .u32 si2, .int .u32 si3, .int .u32 si4, .int .u32 si5, .int .u32 si6, .int .u32 si7] 23)).alloc (.cells #[.int .u32 h0, .int .u32 h1, .int .u32 h2, .int .u32 h3, .int .u32 h4, .int .u32 h5, .int .u32 h6, .int .u32 h7, .slice A2 l2.length c2, .int .u64 m] 27) = W0 at BS BH HB ⊢
  have H := Aside0.mk (Below.refl W0.heap.size W0)
  by_cases h1 : 2000 < l1.length
  · have d1 : decide (2000 < (l1.length : Int)) = true := decide_eq_true (by omega)
    have d2 : decide (2000 < l1.length) = true := decide_eq_true h1
    clear h1 HD
    go_wp2_with (go_at_call 13; refine Calls.mono (wristbandlaw02_awake.calls k true _ (Kd.C_below HL0.out (below_step HB.out H.out)) (Kd.C_below HL1.out (below_step HB.out H.out)) HAW.out) ?_; rintro e w2 ⟨rfl, hb⟩; have H9 := Aside0.mk (below_step H.out hb); clear H; have H := H9; clear H9; clear hb; obtain ⟨ca0, ca1, ca2, ca3, ca4, ca5, ca6, ca7, ca8, ca9⟩ := sr.c10 (blk_below BH.out H.out))
    go_ret
    exact ⟨rfl, below_step HB.out H.out⟩
  · have h2 : 2000 < l2.length := HD.out.resolve_left h1
    have d1 : decide (2000 < (l1.length : Int)) = false := decide_eq_false (by omega)
    have d2 : decide (2000 < l1.length) = false := decide_eq_false h1
    have d3 : decide (2000 < (l2.length : Int)) = true := decide_eq_true (by omega)
    have d4 : decide (2000 < l2.length) = true := decide_eq_true h2
    clear h1 h2 HD
    go_wp2_with (go_at_call 13; refine Calls.mono (wristbandlaw02_awake.calls k true _ (Kd.C_below HL0.out (below_step HB.out H.out)) (Kd.C_below HL1.out (below_step HB.out H.out)) HAW.out) ?_; rintro e w2 ⟨rfl, hb⟩; have H9 := Aside0.mk (below_step H.out hb); clear H; have H := H9; clear H9; clear hb; obtain ⟨ca0, ca1, ca2, ca3, ca4, ca5, ca6, ca7, ca8, ca9⟩ := sr.c10 (blk_below BH.out H.out))
    go_ret
    exact ⟨rfl, below_step HB.out H.out⟩
set_option maxHeartbeats 16000000 in
set_option maxRecDepth 100000 in
theorem sr.main (k : Nat) (si0 si1 si2 si3 si4 si5 si6 si7 : Int) (A1 : Option Addr) (c1 : Nat) (l1 : List Int) (h0 h1 h2 h3 h4 h5 h6 h7 : Int) (A2 : Option Addr) (c2 : Nat) (l2 : List Int) (m : Int) (w : World) (hr1 : Kd.C (Kd.int .u8) w A1 l1.length l1) (hc1 : l1.length ≤ c1) (hr2 : Kd.C (Kd.int .u8) w A2 l2.length l2) (hc2 : l2.length ≤ c2) (hL0 : Kd.C (Kd.int .u32) w (some ⟨0, 0, none⟩) 64 shaK) (hL1 : Kd.C (Kd.int .u32) w (some ⟨1, 0, none⟩) 8 shaF) (haw : wristbandlaw02_awake.f k = some true) (hl1 : ¬ 2000 < l1.length) (hl2 : ¬ 2000 < l2.length) (sm : List Int) (t0 t1 t2 t3 t4 t5 t6 t7 er : Int) (hs1 : sha_Sum.f k l1 = some sm) (hs2 : wristbandref02_Sum.f k l1 = some sm) (hbl : sha_Block.f k si0 si1 si2 si3 si4 si5 si6 si7 l1 = some (t0, t1, t2, t3, t4, t5, t6, t7, er)) (h64 : (l1.length = 64 ∧ er = 0 ∧ ∃ ws rb : List Int, wristbandlaw02_words.f k si0 si1 si2 si3 si4 si5 si6 si7 = some ws ∧ wristbandref02_Block.f k ws l1 = some rb ∧ wristbandlaw02_same.f k t0 t1 t2 t3 t4 t5 t6 t7 rb = some true) ∨ (l1.length ≠ 64 ∧ er = 1 ∧ t0 = 0 ∧ t1 = 0 ∧ t2 = 0 ∧ t3 = 0 ∧ t4 = 0 ∧ t5 = 0 ∧ t6 = 0 ∧ t7 = 0)) (m0 m1 m2 m3 m4 m5 m6 m7 : Int) (mr : List Int) (mm me : Int) (x : List Int) (g : Int) (hmo : sha_More.f k h0 h1 h2 h3 h4 h5 h6 h7 l2 m l1 = some (m0, m1, m2, m3, m4, m5, m6, m7, mr, mm, me)) (hen : sha_End.f k h0 h1 h2 h3 h4 h5 h6 h7 l2 m = some (x, g)) (hre : (64 ≤ l2.length ∧ me = 1 ∧ g = 1 ∧ x = [] ∧ m0 = h0 ∧ m1 = h1 ∧ m2 = h2 ∧ m3 = h3 ∧ m4 = h4 ∧ m5 = h5 ∧ m6 = h6 ∧ m7 = h7 ∧ mr = l2 ∧ mm = m) ∨ (l2.length < 64 ∧ me = 0 ∧ g = 0 ∧ mm = IntKind.u64.wrap (m + IntKind.u64.wrap (l1.length : Int)) ∧ mr = (l2 ++ l1).drop ((l2 ++ l1).length / 64 * 64) ∧ x.length = 32 ∧ ∃ fl hw la fa : List Int, wristbandref02_Fill.f k l2 m = some fl ∧ wristbandlaw02_words.f k h0 h1 h2 h3 h4 h5 h6 h7 = some hw ∧ wristbandref02_From.f k hw fl = some la ∧ la.length = 8 ∧ wristbandref02_From.f k hw (l2 ++ l1) = some fa ∧ wristbandlaw02_same.f k m0 m1 m2 m3 m4 m5 m6 m7 fa = some true ∧ wristbandlaw02_number.f x 0 = some (rd la 0) ∧ wristbandlaw02_number.f x 28 = some (rd la 7) ∧ wristbandlaw02_bytes.f k la = some x)) :
    Calls Tryd.prog 3 #[.agg #[.int .u32 si0, .int .u32 si1, .int .u32 si2, .int .u32 si3, .int .u32 si4, .int .u32 si5, .int .u32 si6, .int .u32 si7], .slice A1 l1.length c1, .agg #[.int .u32 h0, .int .u32 h1, .int .u32 h2, .int .u32 h3, .int .u32 h4, .int .u32 h5, .int .u32 h6, .int .u32 h7, .slice A2 l2.length c2, .int .u64 m]] w fun e w' => e = .returned (.bool true) ∧ Below w.heap.size w w' := by
  have HS1 := Aside0.mk hs1; have HS2 := Aside0.mk hs2; have HBL := Aside0.mk hbl; have H64 := Aside0.mk h64; have HMO := Aside0.mk hmo; have HEN := Aside0.mk hen; have HRE := Aside0.mk hre
  clear hs1 hs2 hbl h64 hmo hen hre
  have LL1 := Aside0.mk hl1; have LL2 := Aside0.mk hl2
  have d1 : decide (2000 < (l1.length : Int)) = false := decide_eq_false (by omega)
  have d2 : decide (2000 < l1.length) = false := decide_eq_false hl1
  have d3 : decide (2000 < (l2.length : Int)) = false := decide_eq_false (by omega)
  have d4 : decide (2000 < l2.length) = false := decide_eq_false hl2
  clear hl1 hl2
  have HR1 := Aside0.mk hr1; have HC1 := Aside0.mk hc1; have HR2 := Aside0.mk hr2; have HC2 := Aside0.mk hc2; have HL0 := Aside0.mk hL0; have HL1 := Aside0.mk hL1; have HAW := Aside0.mk haw
  clear hr1 hc1 hr2 hc2 hL0 hL1 haw
  go_enter Tryd.func3, Tryd.ntmps3
  go_upto_region 1 with fail
  obtain ⟨bs, bh, hb⟩ := sr.two w (.cells #[.int .u32 si0, .int .u32 si1, .int .u32 si2, .int .u32 si3, .int .u32 si4, .int .u32 si5, .int .u32 si6, .int .u32 si7] 23) (.cells #[.int .u32 h0, .int .u32 h1, .int .u32 h2, .int .u32 h3, .int .u32 h4, .int .u32 h5, .int .u32 h6, .int .u32 h7, .slice A2 l2.length c2, .int .u64 m] 27)
  have BS := Aside0.mk bs; have BH := Aside0.mk bh; have HB := Aside0.mk hb
  clear bs bh hb
  generalize (w.alloc (.cells #[.int .u32 si0, .int .u32 si1, .int .u32 si2, .int .u32 si3, .int .u32 si4, .int .u32 si5, .int .u32 si6, .int .u32 si7] 23)).alloc (.cells #[.int .u32 h0, .int .u32 h1, .int .u32 h2, .int .u32 h3, .int .u32 h4, .int .u32 h5, .int .u32 h6, .int .u32 h7, .slice A2 l2.length c2, .int .u64 m] 27) = W0 at BS BH HB ⊢
  have H := Aside0.mk (Below.refl W0.heap.size W0)
  go_upto_region 5 with (go_at_call 13; refine Calls.mono (wristbandlaw02_awake.calls k true _ (Kd.C_below HL0.out (below_step HB.out H.out)) (Kd.C_below HL1.out (below_step HB.out H.out)) HAW.out) ?_; rintro e w2 ⟨rfl, hb⟩; have H9 := Aside0.mk (below_step H.out hb); clear H; have H := H9; clear H9; clear hb; obtain ⟨ca0, ca1, ca2, ca3, ca4, ca5, ca6, ca7, ca8, ca9⟩ := sr.c10 (blk_below BH.out H.out))
  clear ca0 ca1 ca2 ca3 ca4 ca5 ca6 ca7 ca8 ca9
  clear d1 d2 d3 d4
  go_cut [37] (fun v37 wc => v37 = .bool false ∧ Aside0 (Below W0.heap.size W0 wc))
  case first => as_aux_lemma =>
    have H9 := Aside0.mk (below_drew1 H.out); clear H; have H := H9; clear H9
    go_region_with (first
      | (go_at_call 14; refine Calls.mono (sha_Sum.calls k _ _ l1 sm _ (Kd.C_below HR1.out (below_step HB.out H.out)) HC1.out (Kd.C_below HL0.out (below_step HB.out H.out)) (Kd.C_below HL1.out (below_step HB.out H.out)) HS1.out) ?_; rintro e wa ⟨va, rfl, h0, hb⟩; obtain ⟨Aa, ca, rfl⟩ := Kd.R_slice h0; have H9 := Aside0.mk (below_step H.out hb); clear H; have H := H9; clear H9; have HXA := Aside0.mk (Kd.R_reads' h0).2.2; have ka := sr.str (c := ca) HXA.out; (try (have HXB9 := Aside0.mk (Kd.C_below HXB.out hb); have kb9 := sr.str (c := cb) HXB9.out)); clear hb h0)
      | (go_at_call 15; refine Calls.mono (wristbandref02_Sum.calls k _ _ l1 sm _ (Kd.C_below HR1.out (below_step HB.out H.out)) HC1.out HS2.out) ?_; rintro e wb ⟨vb, rfl, h0, hb⟩; obtain ⟨Ab, cb, rfl⟩ := Kd.R_slice h0; have H9 := Aside0.mk (below_step H.out hb); clear H; have H := H9; clear H9; have HXB := Aside0.mk (Kd.R_reads' h0).2.2; have kb := sr.str (c := cb) HXB.out; (try (have HXA9 := Aside0.mk (Kd.C_below HXA.out hb); have ka9 := sr.str (c := ca) HXA9.out)); clear hb h0))
    all_goals
      simp only [List.getElem_toArray, List.getElem_cons_succ, List.getElem_cons_zero, Act.put, List.setIfInBounds_toArray, List.set_cons_zero, List.set_cons_succ]
      go_wp2
      go_meet
      case rel => exact ⟨by first | rfl | (simp; done), H⟩
  case rest =>
    clear H
    obtain ⟨rfl, H⟩ := hcut
    obtain ⟨ca0, ca1, ca2, ca3, ca4, ca5, ca6, ca7⟩ := sr.c8 (blk_below BS.out H.out)
    go_upto_region 8 with (go_at_call 16; refine Calls.mono (sha_Block.calls k si0 si1 si2 si3 si4 si5 si6 si7 _ _ l1 t0 t1 t2 t3 t4 t5 t6 t7 er _ (Kd.C_below HR1.out (below_step HB.out H.out)) HC1.out (Kd.C_below HL0.out (below_step HB.out H.out)) (Kd.C_below HL1.out (below_step HB.out H.out)) HBL.out) ?_; rintro e wb ⟨rfl, hb⟩; have H9 := Aside0.mk (below_step H.out hb); clear H; have H := H9; clear H9; clear hb)
    clear ca0 ca1 ca2 ca3 ca4 ca5 ca6 ca7
    have BT := Aside0.mk (blk_new wb (.cells #[.int .u32 t0, .int .u32 t1, .int .u32 t2, .int .u32 t3, .int .u32 t4, .int .u32 t5, .int .u32 t6, .int .u32 t7] 23))
    have BS9 := Aside0.mk (blk_alloc (blk_below BS.out H.out) (.cells #[.int .u32 t0, .int .u32 t1, .int .u32 t2, .int .u32 t3, .int .u32 t4, .int .u32 t5, .int .u32 t6, .int .u32 t7] 23))
    have BH9 := Aside0.mk (blk_alloc (blk_below BH.out H.out) (.cells #[.int .u32 t0, .int .u32 t1, .int .u32 t2, .int .u32 t3, .int .u32 t4, .int .u32 t5, .int .u32 t6, .int .u32 t7] 23))
    have HB9 := Aside0.mk (below_alloc (below_step HB.out H.out) (.cells #[.int .u32 t0, .int .u32 t1, .int .u32 t2, .int .u32 t3, .int .u32 t4, .int .u32 t5, .int .u32 t6, .int .u32 t7] 23))
    generalize wb.alloc (.cells #[.int .u32 t0, .int .u32 t1, .int .u32 t2, .int .u32 t3, .int .u32 t4, .int .u32 t5, .int .u32 t6, .int .u32 t7] 23) = W7 at BT BS9 BH9 HB9 ⊢
    generalize wb.heap.size = gt at BT ⊢
    clear H
    clear BS; have BS := BS9; clear BS9; clear BH; have BH := BH9; clear BH9; clear HB; have HB := HB9; clear HB9
    have H := Aside0.mk (Below.refl W7.heap.size W7)
    go_upto_if 46 with (fail)
    go_cut [] (fun wc => Aside0 (Below W7.heap.size W7 wc))
    case first => as_aux_lemma =>
      rcases H64.out with ⟨e64, rfl, ws, rb, f1, f2, f3⟩ | ⟨e64, rfl, rfl, rfl, rfl, rfl, rfl, rfl, rfl, rfl⟩
      · have b1 : (l1.length == 64) = true := beq_iff_eq.2 e64
        have b2 : ((l1.length : Int) == 64) = true := beq_iff_eq.2 (by omega)
        have F1 := Aside0.mk f1; have F2 := Aside0.mk f2; have F3 := Aside0.mk f3
        clear H64 e64 f1 f2 f3
        go_wp2
        have H9 := Aside0.mk (below_drew1 H.out); clear H; have H := H9; clear H9
        obtain ⟨ca0, ca1, ca2, ca3, ca4, ca5, ca6, ca7⟩ := sr.c8 (blk_below BS.out H.out)
        obtain ⟨cb0, cb1, cb2, cb3, cb4, cb5, cb6, cb7⟩ := sr.c8 (blk_below BT.out H.out)
        go_region_with (first
          | (go_at_call 19; refine Calls.mono (wristbandlaw02_words.calls k si0 si1 si2 si3 si4 si5 si6 si7 ws _ F1.out) ?_; rintro e wa ⟨va, rfl, h0, hb⟩; obtain ⟨Aa, ca, rfl⟩ := Kd.R_slice h0; have H9 := Aside0.mk (below_step H.out hb); clear H; have H := H9; clear H9; have HXA := Aside0.mk h0; clear hb h0; obtain ⟨cc0, cc1, cc2, cc3, cc4, cc5, cc6, cc7⟩ := sr.c8 (blk_below BT.out H.out))
          | (go_at_call 18; refine Calls.mono (wristbandref02_Block.calls k _ _ ws _ _ l1 rb _ (Kd.R_reads' HXA.out).2.2 (Kd.R_reads' HXA.out).2.1 (Kd.C_below HR1.out (below_step HB.out H.out)) HC1.out F2.out) ?_; rintro e wd ⟨vd, rfl, h0, hb⟩; obtain ⟨Ad, cd, rfl⟩ := Kd.R_slice h0; have H9 := Aside0.mk (below_step H.out hb); clear H; have H := H9; clear H9; have HXD := Aside0.mk h0; clear hb h0; obtain ⟨cd0, cd1, cd2, cd3, cd4, cd5, cd6, cd7⟩ := sr.c8 (blk_below BT.out H.out))
          | (go_at_call 17; refine Calls.mono (wristbandlaw02_same.calls k t0 t1 t2 t3 t4 t5 t6 t7 _ _ rb true _ (Kd.R_reads' HXD.out).2.2 (Kd.R_reads' HXD.out).2.1 F3.out) ?_; rintro e wf ⟨rfl, hb⟩; have H9 := Aside0.mk (below_step H.out hb); clear H; have H := H9; clear H9; clear hb))
        all_goals
          simp only [List.getElem_toArray, List.getElem_cons_succ, List.getElem_cons_zero, Act.put, List.setIfInBounds_toArray, List.set_cons_zero, List.set_cons_succ]
          go_wp2
          go_meet
          case rel => exact H
      · have b1 : (l1.length == 64) = false := beq_eq_false_iff_ne.2 e64
        have b2 : ((l1.length : Int) == 64) = false := beq_eq_false_iff_ne.2 (by omega)
        clear H64 e64
        obtain ⟨cb0, cb1, cb2, cb3, cb4, cb5, cb6, cb7⟩ := sr.c8 (blk_below BT.out H.out)
        go_wp2
        go_meet
        case rel => exact H
    case rest =>
      clear H BT H64
      have H := hcut
      clear hcut
      obtain ⟨ca0, ca1, ca2, ca3, ca4, ca5, ca6, ca7, ca8, ca9⟩ := sr.c10 (blk_below BH.out H.out)
      go_upto_region 14 with (go_at_call 20; refine Calls.mono (sha_More.calls k h0 h1 h2 h3 h4 h5 h6 h7 (fun k_ => k_ < w.heap.size) _ _ l2 m _ _ l1 m0 m1 m2 m3 m4 m5 m6 m7 mr mm me _ (Kd.V_mk HC2.out (Kd.F_below (Kd.C_F (Kd.heap_int .u8) HR2.out) (below_step HB.out H.out))) (Kd.C_below HR1.out (below_step HB.out H.out)) HC1.out (Kd.C_below HL0.out (below_step HB.out H.out)) (Kd.C_below HL1.out (below_step HB.out H.out)) HMO.out) ?_; rintro e wm ⟨v0, rfl, h0, hb⟩; obtain ⟨Am, cm, rfl⟩ := Kd.V_slice h0; have HM := Aside0.mk (Kd.V_reads' h0).2.2; have H9 := Aside0.mk (below_step H.out hb); clear H; have H := H9; clear H9; clear h0 hb)
      clear ca0 ca1 ca2 ca3 ca4 ca5 ca6 ca7 ca8 ca9
      have HM9 := Aside0.mk (Kd.C_alloc HM.out (.cells #[.int .u32 m0, .int .u32 m1, .int .u32 m2, .int .u32 m3, .int .u32 m4, .int .u32 m5, .int .u32 m6, .int .u32 m7, .slice Am mr.length cm, .int .u64 mm] 27))
      have BK := Aside0.mk (blk_new wm (.cells #[.int .u32 m0, .int .u32 m1, .int .u32 m2, .int .u32 m3, .int .u32 m4, .int .u32 m5, .int .u32 m6, .int .u32 m7, .slice Am mr.length cm, .int .u64 mm] 27))
      have BS9 := Aside0.mk (blk_alloc (blk_below BS.out H.out) (.cells #[.int .u32 m0, .int .u32 m1, .int .u32 m2, .int .u32 m3, .int .u32 m4, .int .u32 m5, .int .u32 m6, .int .u32 m7, .slice Am mr.length cm, .int .u64 mm] 27))
      have BH9 := Aside0.mk (blk_alloc (blk_below BH.out H.out) (.cells #[.int .u32 m0, .int .u32 m1, .int .u32 m2, .int .u32 m3, .int .u32 m4, .int .u32 m5, .int .u32 m6, .int .u32 m7, .slice Am mr.length cm, .int .u64 mm] 27))
      have HB9 := Aside0.mk (below_alloc (below_step HB.out H.out) (.cells #[.int .u32 m0, .int .u32 m1, .int .u32 m2, .int .u32 m3, .int .u32 m4, .int .u32 m5, .int .u32 m6, .int .u32 m7, .slice Am mr.length cm, .int .u64 mm] 27))
      generalize wm.alloc (.cells #[.int .u32 m0, .int .u32 m1, .int .u32 m2, .int .u32 m3, .int .u32 m4, .int .u32 m5, .int .u32 m6, .int .u32 m7, .slice Am mr.length cm, .int .u64 mm] 27) = WK at HM9 BK BS9 BH9 HB9 ⊢
      generalize wm.heap.size = gkb at BK ⊢
      clear H
      clear BS; have BS := BS9; clear BS9; clear BH; have BH := BH9; clear BH9; clear HB; have HB := HB9; clear HB9
      have H := Aside0.mk (Below.refl WK.heap.size WK)
      clear HM; have HM := HM9; clear HM9
      obtain ⟨ca0, ca1, ca2, ca3, ca4, ca5, ca6, ca7, ca8, ca9⟩ := sr.c10 (blk_below BH.out H.out)
      go_upto_region 15 with (go_at_call 21; refine Calls.mono (sha_End.calls k h0 h1 h2 h3 h4 h5 h6 h7 _ _ l2 m x g _ (Kd.C_below HR2.out (below_step HB.out H.out)) HC2.out (Kd.C_below HL0.out (below_step HB.out H.out)) (Kd.C_below HL1.out (below_step HB.out H.out)) HEN.out) ?_; rintro e WE ⟨v0, rfl, h0, hb⟩; obtain ⟨Ax, cx, rfl⟩ := Kd.R_slice h0; have HX := Aside0.mk (Kd.R_reads' h0).2.2; have HXC := Aside0.mk (Kd.R_reads' h0).2.1; have BS9 := Aside0.mk (blk_below BS.out hb); have BH9 := Aside0.mk (blk_below BH.out hb); have BK9 := Aside0.mk (blk_below BK.out hb); have HM9 := Aside0.mk (Kd.C_below HM.out hb); have HB9 := Aside0.mk (below_step HB.out hb); clear BS; have BS := BS9; clear BS9; clear BH; have BH := BH9; clear BH9; clear BK; have BK := BK9; clear BK9; clear HM; have HM := HM9; clear HM9; clear HB; have HB := HB9; clear HB9; clear H h0 hb)
      clear ca0 ca1 ca2 ca3 ca4 ca5 ca6 ca7 ca8 ca9
      have H := Aside0.mk (Below.refl WE.heap.size WE)
      rcases HRE.out with ⟨r64, rfl, rfl, rfl, rfl, rfl, rfl, rfl, rfl, rfl, rfl, rfl, rfl, rfl⟩ | ⟨r64, rfl, rfl, hmm, hmr, hx, fl, hw, la, fa, q1, q2, q3, q4, q5, q6, q7, q8, q9⟩
      · have b1 : decide (64 ≤ mr.length) = true := decide_eq_true r64
        have b2 : decide (64 ≤ (mr.length : Int)) = true := decide_eq_true (by omega)
        clear HRE r64
        obtain ⟨ca0, ca1, ca2, ca3, ca4, ca5, ca6, ca7, ca8, ca9⟩ := sr.c10 BH.out
        obtain ⟨cb0, cb1, cb2, cb3, cb4, cb5, cb6, cb7, cb8, cb9⟩ := sr.c10 BK.out
        have ka := sr.str (c := cm) HM.out
        have kb := sr.str (c := c2) (Kd.C_below HR2.out (below_step HB.out H.out))
        go_wp2
        go_ret
        exact ⟨rfl, HB.out⟩
      · have b1 : decide (64 ≤ l2.length) = false := decide_eq_false (by omega)
        have b2 : decide (64 ≤ (l2.length : Int)) = false := decide_eq_false (by omega)
        obtain ⟨y, hy⟩ : ∃ y : List Int, y = l2 ++ l1 := ⟨_, rfl⟩
        have LY := Aside0.mk (show y.length ≤ 4000 by have := LL1.out; have := LL2.out; rw [hy, List.length_append]; omega)
        rw [← hy] at hmr q5
        have HY0 := Aside0.mk hy; have HMM := Aside0.mk hmm; have HMR := Aside0.mk hmr; have HXL := Aside0.mk hx; have LA8 := Aside0.mk q4
        have Q1 := Aside0.mk q1; have Q2 := Aside0.mk q2; have Q3 := Aside0.mk q3; have Q5 := Aside0.mk q5; have Q6 := Aside0.mk q6; have Q7 := Aside0.mk q7; have Q8 := Aside0.mk q8; have Q9 := Aside0.mk q9
        clear HRE r64 hy hmm hmr hx q1 q2 q3 q4 q5 q6 q7 q8 q9
        obtain ⟨ca0, ca1, ca2, ca3, ca4, ca5, ca6, ca7, ca8, ca9⟩ := sr.c10 BH.out
        go_upto_region 18 with (first
          | ((with_reducible refine gate_dst (N := 114) rfl ?_); refine Kd.R_lit (Kd.int .u8) WE.heap.size 5 ?hg (N := 114) ?hd (xs := ([] : List Int)) (inner := []) (ok := fun _ => True) (okp := fun _ => True) ?hr ?hp (fun _ hk => hk) trivial H.out (Nat.le_refl _) (by simp) ?_; (case hd => rfl); (case hg => rfl); (case hr => first | (go_simp; done) | (go_simp; rfl)); (case hp => exact (Reps.none _ _)); intro v0 wl ho hb _ _; have HV0 := Aside0.mk ho; have H9 := Aside0.mk hb; clear H ho hb; have H := H9; clear H9; obtain ⟨cb0, cb1, cb2, cb3, cb4, cb5, cb6, cb7, cb8, cb9⟩ := sr.c10 (blk_below BH.out H.out))
          | ((with_reducible refine gate_builtin (b := .append) (xs := #[.tmp 114, .tmp 116]) rfl ?_); at_builtin; refine Kd.R_append_rows (Kd.int .u8) (w0 := WE) WE.heap.size rfl (.tmp 114) (.tmp 116) 24 5 (.int .u8 0) 1 rfl Tryd.underlying24 info5 rfl (by decide) (by omega) v0 ([] : List Int) l2 _ _ _ (fun _ => True) (fun _ => False) rfl rfl ?aO ?aR (fun _ _ h => h) (fun _ h => h.elim) ?aF ?aB ?aS ?aL ?_; (case aR => exact (Kd.C_below HR2.out (below_step HB.out H.out))); (case aB => exact H.out); (case aF => exact fun _ _ => trivial); (case aO => exact HV0.out); (case aS => exact H.out.size); (case aL => have := LL1.out; have := LL2.out; (try have := LY.out); simp only [List.nil_append, List.length_nil]; omega); intro v1 wx ho hb _ _; have HV1 := Aside0.mk ho; have H9 := Aside0.mk hb; clear H ho hb; have H := H9; clear H9; clear b1 b2)
          | ((with_reducible refine gate_builtin (b := .append) (xs := #[.tmp 117, .tmp 118]) rfl ?_); at_builtin; refine Kd.R_append_rows (Kd.int .u8) (w0 := WE) WE.heap.size rfl (.tmp 117) (.tmp 118) 24 5 (.int .u8 0) 1 rfl Tryd.underlying24 info5 rfl (by decide) (by omega) v1 ([] ++ l2 : List Int) l1 _ _ _ (fun _ => True) (fun _ => False) rfl rfl ?aO ?aR (fun _ _ h => h) (fun _ h => h.elim) ?aF ?aB ?aS ?aL ?_; (case aR => exact (Kd.C_below HR1.out (below_step HB.out H.out))); (case aB => exact H.out); (case aF => exact fun _ _ => trivial); (case aO => exact HV1.out); (case aS => exact H.out.size); (case aL => have := LL1.out; have := LL2.out; (try have := LY.out); simp only [List.nil_append, List.length_nil]; omega); intro v2 wy ho hb _ _; have HV2 := Aside0.mk ho; have H9 := Aside0.mk hb; clear H ho hb; have H := H9; clear H9; skip))
        clear ca0 ca1 ca2 ca3 ca4 ca5 ca6 ca7 ca8 ca9
        have hv2 := HV2.out
        rw [List.nil_append, ← HY0.out] at hv2
        obtain ⟨Ay, cy, rfl⟩ := Kd.R_slice hv2
        have HY := Aside0.mk (Kd.R_reads' hv2).2.2; have HYC := Aside0.mk (Kd.R_reads' hv2).2.1
        clear hv2 HV2 HV1 HV0 HY0 cb0 cb1 cb2 cb3 cb4 cb5 cb6 cb7 cb8 cb9
        obtain ⟨ca0, ca1, ca2, ca3, ca4, ca5, ca6, ca7, ca8, ca9⟩ := sr.c10 (blk_below BH.out H.out)
        go_upto_region 19 with (go_at_call 22; refine Calls.mono (wristbandref02_Fill.calls k _ _ l2 m fl _ (Kd.C_below HR2.out (below_step HB.out H.out)) HC2.out Q1.out) ?_; rintro e wf ⟨v, rfl, h0, hb⟩; obtain ⟨Af, cf, rfl⟩ := Kd.R_slice h0; have HFL := Aside0.mk (Kd.R_reads' h0).2.2; have HFC := Aside0.mk (Kd.R_reads' h0).2.1; have HY9 := Aside0.mk (Kd.C_below HY.out hb); clear HY; have HY := HY9; clear HY9; have H9 := Aside0.mk (below_step H.out hb); clear H; have H := H9; clear H9; clear hb h0)
        go_upto_region 20 with fail
        clear ca0 ca1 ca2 ca3 ca4 ca5 ca6 ca7 ca8 ca9
        have BW := Aside0.mk (blk_new wf (.cells #[.int .u32 0, .int .u32 0, .int .u32 0, .int .u32 0, .int .u32 0, .int .u32 0, .int .u32 0, .int .u32 0, .slice none 0 0, .int .u64 0] 27))
        have HYF := Aside0.mk (Kd.F_mono (ok' := fun k => k ≠ wf.heap.size) (Kd.F_below (Kd.C_F (Kd.heap_int .u8) HY.out) ((Below.refl _ _).alloc (Nat.le_refl _) (.cells #[.int .u32 0, .int .u32 0, .int .u32 0, .int .u32 0, .int .u32 0, .int .u32 0, .int .u32 0, .int .u32 0, .slice none 0 0, .int .u64 0] 27))) (fun k hk => Nat.ne_of_lt hk))
        have HFL9 := Aside0.mk (Kd.C_alloc HFL.out (.cells #[.int .u32 0, .int .u32 0, .int .u32 0, .int .u32 0, .int .u32 0, .int .u32 0, .int .u32 0, .int .u32 0, .slice none 0 0, .int .u64 0] 27))
        have GW := Aside0.mk H.out.size
        have H9 := Aside0.mk (below_alloc H.out (.cells #[.int .u32 0, .int .u32 0, .int .u32 0, .int .u32 0, .int .u32 0, .int .u32 0, .int .u32 0, .int .u32 0, .slice none 0 0, .int .u64 0] 27))
        have GW2 := Aside0.mk (show wf.heap.size < (wf.alloc (.cells #[.int .u32 0, .int .u32 0, .int .u32 0, .int .u32 0, .int .u32 0, .int .u32 0, .int .u32 0, .int .u32 0, .slice none 0 0, .int .u64 0] 27)).heap.size by rw [alloc_size']; omega)
        clear HFL HY H
        have HFL := HFL9
        have H := H9
        clear HFL9 H9
        generalize wf.alloc (.cells #[.int .u32 0, .int .u32 0, .int .u32 0, .int .u32 0, .int .u32 0, .int .u32 0, .int .u32 0, .int .u32 0, .slice none 0 0, .int .u64 0] 27) = W19 at BW HYF HFL H GW2 ⊢
        generalize wf.heap.size = gw at BW HYF GW GW2 ⊢
        obtain ⟨ca0, ca1, ca2, ca3, ca4, ca5, ca6, ca7, ca8, ca9⟩ := sr.c10 (blk_below BH.out H.out)
        go_upto_region 21 with (first
          | (go_at_call 19; refine Calls.mono (wristbandlaw02_words.calls k h0 h1 h2 h3 h4 h5 h6 h7 hw _ Q2.out) ?_; rintro e ww ⟨v, rfl, h0, hb⟩; obtain ⟨Ah, ch, rfl⟩ := Kd.R_slice h0; have HH := Aside0.mk (Kd.V_mono (ok' := fun k_ => gw < k_) (Kd.R_V (base' := ww.heap.size) (Kd.R_bound h0)) (fun k_ hk => Nat.lt_of_lt_of_le GW2.out hk.2.1)); have GW9 := Aside0.mk (Nat.lt_of_lt_of_le GW2.out hb.size); have BW9 := Aside0.mk (blk_below BW.out hb); have HYF9 := Aside0.mk (Kd.F_below HYF.out hb); have HFL9 := Aside0.mk (Kd.C_below HFL.out hb); clear GW2; have GW2 := GW9; clear GW9; clear BW; have BW := BW9; clear BW9; clear HYF; have HYF := HYF9; clear HYF9; clear HFL; have HFL := HFL9; clear HFL9; have H9 := Aside0.mk (below_step H.out hb); clear H; have H := H9; clear H9; clear hb h0)
          | (go_at_call 23; refine Calls.mono (wristbandref02_From.calls k (fun k_ => gw < k_) _ _ hw _ _ fl la _ HH.out HFL.out HFC.out Q3.out) ?_; rintro e wq ⟨v, rfl, h0, hb⟩; obtain ⟨Al, cq, rfl⟩ := Kd.V_slice h0; have HLF := Aside0.mk (Kd.F_mono (ok' := fun k => k ≠ gw) (Kd.V_F h0) (fun k hk => by have := GW2.out; omega)); have HLC := Aside0.mk (Kd.V_reads' h0).2.1; have BW9 := Aside0.mk (blk_below BW.out hb); have HYF9 := Aside0.mk (Kd.F_below HYF.out hb); clear BW; have BW := BW9; clear BW9; clear HYF; have HYF := HYF9; clear HYF9; have H9 := Aside0.mk (below_step H.out hb); clear H; have H := H9; clear H9; clear hb h0 HFL HFC HH))
        clear ca0 ca1 ca2 ca3 ca4 ca5 ca6 ca7 ca8 ca9
        go_upto_region 22 with fail
        clear GW2
        go_loopg [17] 9 (fun kq v17 wr => ∃ (i : Nat) (cs : Array Value), v17 = .int .i64 i ∧ Aside0 (i ≤ 8) ∧ Aside0 (8 < kq + i) ∧ Aside0 (kq ≤ 9) ∧ Aside0 (∀ j, j < 8 → ∃ a : Int, cs[j]? = some (.int .u32 a)) ∧ Aside0 (∀ j : Nat, j < i → cs[j]? = some (.int .u32 (rd la (j : Int)))) ∧ Aside0 (wr.heap[gw]? = some (.cells cs 27 (0, 0))) ∧ Aside0 (wq.grownBy wr (some gw)))
        case atStart => exact ⟨0, _, rfl, ⟨Nat.zero_le _⟩, ⟨by omega⟩, ⟨Nat.le_refl _⟩, ⟨fun j hj => ⟨0, sr.zero j hj⟩⟩, ⟨fun j hj => absurd hj (Nat.not_lt_zero j)⟩, BW, ⟨⟨rfl, rfl, rfl, Nat.le_refl _, fun _ _ _ => rfl⟩⟩⟩
        case round =>
          obtain ⟨i, cs, rfl, HI, HF, HK9, HC8, HCS, BW5, HG⟩ := hrel
          rcases Nat.lt_or_ge i 8 with hlt | hge
          · obtain ⟨a, ha⟩ := HC8.out i hlt
            have HLAW := Aside0.mk (HLF.out wr (fun k hk hlt => HG.out.block k hlt (fun e => hk (Option.some.inj e))))
            obtain ⟨ad, e1, hx1⟩ := Kd.at_int HLAW.out (i : Int) (by omega) (by have := LA8.out; omega)
            cases e1
            simp only [Int.toNat_natCast] at hx1
            have hv1 : wr.cell? ⟨gw, i, none⟩ = some (.int .u32 a) := (blk_cell BW5.out i).trans ha
            have hf2 := blk_frozen BW5.out i
            have c3 : decide ((i : Int) < 8) = true := decide_eq_true (by omega)
            have q3 := eq_true (show (i : Int) < 8 by omega)
            have p3 := eq_true (show (0 : Int) ≤ (i : Int) by omega)
            have q4 := eq_true (show (i : Int) < (la.length : Int) by have := LA8.out; omega)
            have q5 := eq_true (show i < la.length by have := LA8.out; omega)
            have HA := Aside0.mk ha
            clear ha
            go_wp2
            have HW2 := Aside0.mk (show wrap64 ((i : Int) + 1) = ((i + 1 : Nat) : Int) by unfold wrap64; omega)
            obtain ⟨k2, hk2⟩ : ∃ k2, gk = k2 + 1 := ⟨gk - 1, by have := HF.out; omega⟩
            subst hk2
            go_roundg k2
            case measure => have := HK9.out; omega
            case rel =>
              refine ⟨i + 1, _, ?_, ⟨by omega⟩, ⟨by have := HF.out; omega⟩, ⟨by have := HK9.out; omega⟩, ⟨sr.set1 HC8.out i _⟩, ⟨sr.set2 HC8.out HCS.out hlt⟩, ⟨blk_set BW5.out i _⟩, ⟨grown_set HG.out⟩⟩
              first | exact congrArg (Value.int .i64) HW2.out | (push_cast; rfl)
          · have hi9 : i = 8 := by have := HI.out; omega
            subst hi9
            have HLAW := Aside0.mk (HLF.out wr (fun k hk hlt => HG.out.block k hlt (fun e => hk (Option.some.inj e))))
            have HYW := Aside0.mk (HYF.out wr (fun k hk hlt => HG.out.block k hlt (fun e => hk (Option.some.inj e))))
            have H9 := Aside0.mk (H.out.grown HG.out H.out.size (fun k hk => by cases hk; exact GW.out))
            have CW0 := Aside0.mk (HCS.out 0 (by omega))
            have CW7 := Aside0.mk (HCS.out 7 (by omega))
            have BH9 := Aside0.mk (blk_below BH.out H9.out); have BK9 := Aside0.mk (blk_below BK.out H9.out); have HX9 := Aside0.mk (Kd.C_below HX.out H9.out); have HM9 := Aside0.mk (Kd.C_below HM.out H9.out); have HB9 := Aside0.mk (below_step HB.out H9.out)
            clear HCS HC8 HF HK9 HI BS H9 H HG hge HLF HYF
            clear BH; have BH := BH9; clear BH9; clear BK; have BK := BK9; clear BK9; clear HX; have HX := HX9; clear HX9; clear HM; have HM := HM9; clear HM9; clear HB; have HB := HB9; clear HB9
            have BW := BW5
            clear BW5
            have H := Aside0.mk (Below.refl wr.heap.size wr)
            obtain ⟨ji, hji⟩ : ∃ ji : Int, wrap64 (wrap64 ((y.length : Int) / 64) * 64) = ji := ⟨_, rfl⟩
            have e1 : wrap64 ((y.length : Int) / 64) = ((y.length / 64 : Nat) : Int) := by have := LY.out; unfold wrap64; omega
            have e2 : ji = ((y.length / 64 * 64 : Nat) : Int) := by rw [← hji, e1]; have := LY.out; unfold wrap64; omega
            have e3 : ji.toNat = y.length / 64 * 64 := by omega
            obtain ⟨Az, cz, hcut, hcz⟩ := sr.cut Ay cy y mr ji (by omega) (by omega) (by rw [e3]; exact HMR.out) HYC.out
            have HZ := Aside0.mk (hcz wr HYW.out)
            have hjw : IntKind.i64.wrap (wrap64 ((y.length : Int) / 64) * 64) = ji := (i64_w _).trans hji
            have hjv : IntKind.i64.wrap (IntKind.i64.wrap ((y.length : Int) / 64) * 64) = ji := by rw [i64_w, i64_w]; exact hji
            clear e1 e2 e3 hcz HMR
            have mmb : (mm == IntKind.u64.wrap (m + IntKind.u64.wrap (l1.length : Int))) = true := beq_iff_eq.2 HMM.out
            have x1 : (x.length == 32) = true := beq_iff_eq.2 HXL.out
            have x2 : ((x.length : Int) == 32) = true := beq_iff_eq.2 (by have := HXL.out; omega)
            obtain ⟨ca0, ca1, ca2, ca3, ca4, ca5, ca6, ca7, ca8, ca9⟩ := sr.c10 BH.out
            go_upto_region 26 with (go_at_call 21; refine Calls.mono (sha_End.calls k h0 h1 h2 h3 h4 h5 h6 h7 _ _ l2 m x 0 _ (Kd.C_below HR2.out (below_step HB.out H.out)) HC2.out (Kd.C_below HL0.out (below_step HB.out H.out)) (Kd.C_below HL1.out (below_step HB.out H.out)) HEN.out) ?_; rintro e w25 ⟨v, rfl, h0, hb⟩; obtain ⟨Ax2, cx2, rfl⟩ := Kd.R_slice h0; have HX2 := Aside0.mk (Kd.R_reads' h0).2.2; have BH9 := Aside0.mk (blk_below BH.out hb); have BK9 := Aside0.mk (blk_below BK.out hb); have BW9 := Aside0.mk (blk_below BW.out hb); have HM9 := Aside0.mk (Kd.C_below HM.out hb); have HX9 := Aside0.mk (Kd.C_below HX.out hb); have HZ9 := Aside0.mk (Kd.C_below HZ.out hb); have HYW9 := Aside0.mk (Kd.C_below HYW.out hb); have HLAW9 := Aside0.mk (Kd.C_below HLAW.out hb); have HB9 := Aside0.mk (below_step HB.out hb); clear BH; have BH := BH9; clear BH9; clear BK; have BK := BK9; clear BK9; clear BW; have BW := BW9; clear BW9; clear HM; have HM := HM9; clear HM9; clear HX; have HX := HX9; clear HX9; clear HZ; have HZ := HZ9; clear HZ9; clear HYW; have HYW := HYW9; clear HYW9; clear HLAW; have HLAW := HLAW9; clear HLAW9; clear HB; have HB := HB9; clear HB9; clear H h0 hb)
            clear ca0 ca1 ca2 ca3 ca4 ca5 ca6 ca7 ca8 ca9
            have H := Aside0.mk (below_drew1 (Below.refl w25.heap.size w25))
            have HSK : Aside0 (∀ w' : World, Below w25.heap.size w25 w' → (w'.cell? ⟨gkb, 0, none⟩ = some (.int .u32 m0) ∧ w'.cell? ⟨gkb, 1, none⟩ = some (.int .u32 m1) ∧ w'.cell? ⟨gkb, 2, none⟩ = some (.int .u32 m2) ∧ w'.cell? ⟨gkb, 3, none⟩ = some (.int .u32 m3) ∧ w'.cell? ⟨gkb, 4, none⟩ = some (.int .u32 m4) ∧ w'.cell? ⟨gkb, 5, none⟩ = some (.int .u32 m5) ∧ w'.cell? ⟨gkb, 6, none⟩ = some (.int .u32 m6) ∧ w'.cell? ⟨gkb, 7, none⟩ = some (.int .u32 m7) ∧ w'.cell? ⟨gkb, 8, none⟩ = some (.slice Am mr.length cm) ∧ w'.cell? ⟨gkb, 9, none⟩ = some (.int .u64 mm) ∧ w'.cell? ⟨w.heap.size + 1, 0, none⟩ = some (.int .u32 h0) ∧ w'.cell? ⟨w.heap.size + 1, 1, none⟩ = some (.int .u32 h1) ∧ w'.cell? ⟨w.heap.size + 1, 2, none⟩ = some (.int .u32 h2) ∧ w'.cell? ⟨w.heap.size + 1, 3, none⟩ = some (.int .u32 h3) ∧ w'.cell? ⟨w.heap.size + 1, 4, none⟩ = some (.int .u32 h4) ∧ w'.cell? ⟨w.heap.size + 1, 5, none⟩ = some (.int .u32 h5) ∧ w'.cell? ⟨w.heap.size + 1, 6, none⟩ = some (.int .u32 h6) ∧ w'.cell? ⟨w.heap.size + 1, 7, none⟩ = some (.int .u32 h7) ∧ w'.cell? ⟨w.heap.size + 1, 8, none⟩ = some (.slice A2 l2.length c2) ∧ w'.cell? ⟨w.heap.size + 1, 9, none⟩ = some (.int .u64 m) ∧ w'.cell? ⟨gw, 0, none⟩ = some (.int .u32 (rd la 0)) ∧ w'.cell? ⟨gw, 7, none⟩ = some (.int .u32 (rd la 7)) ∧ (convert 24 9 (.slice Ax x.length cx)).run Tryd.prog w' = .ok (.string (strOfNums x)) w' ∧ (convert 24 9 (.slice Am mr.length cm)).run Tryd.prog w' = .ok (.string (strOfNums mr)) w' ∧ (convert 24 9 (.slice Az mr.length cz)).run Tryd.prog w' = .ok (.string (strOfNums mr)) w' ∧ (convert 24 9 (.slice Ax2 x.length cx2)).run Tryd.prog w' = .ok (.string (strOfNums x)) w')) := ⟨fun w' hb => ⟨(blk_cell (blk_below BK.out hb) 0).trans rfl, (blk_cell (blk_below BK.out hb) 1).trans rfl, (blk_cell (blk_below BK.out hb) 2).trans rfl, (blk_cell (blk_below BK.out hb) 3).trans rfl, (blk_cell (blk_below BK.out hb) 4).trans rfl, (blk_cell (blk_below BK.out hb) 5).trans rfl, (blk_cell (blk_below BK.out hb) 6).trans rfl, (blk_cell (blk_below BK.out hb) 7).trans rfl, (blk_cell (blk_below BK.out hb) 8).trans rfl, (blk_cell (blk_below BK.out hb) 9).trans rfl, (blk_cell (blk_below BH.out hb) 0).trans rfl, (blk_cell (blk_below BH.out hb) 1).trans rfl, (blk_cell (blk_below BH.out hb) 2).trans rfl, (blk_cell (blk_below BH.out hb) 3).trans rfl, (blk_cell (blk_below BH.out hb) 4).trans rfl, (blk_cell (blk_below BH.out hb) 5).trans rfl, (blk_cell (blk_below BH.out hb) 6).trans rfl, (blk_cell (blk_below BH.out hb) 7).trans rfl, (blk_cell (blk_below BH.out hb) 8).trans rfl, (blk_cell (blk_below BH.out hb) 9).trans rfl, (blk_cell (blk_below BW.out hb) 0).trans CW0.out, (blk_cell (blk_below BW.out hb) 7).trans CW7.out, sr.str (Kd.C_below HX.out hb), sr.str (Kd.C_below HM.out hb), sr.str (Kd.C_below HZ.out hb), sr.str (Kd.C_below HX2.out hb)⟩⟩
            refine start_ (n := 81) (S := fun w' => w'.cell? ⟨gkb, 0, none⟩ = some (.int .u32 m0) ∧ w'.cell? ⟨gkb, 1, none⟩ = some (.int .u32 m1) ∧ w'.cell? ⟨gkb, 2, none⟩ = some (.int .u32 m2) ∧ w'.cell? ⟨gkb, 3, none⟩ = some (.int .u32 m3) ∧ w'.cell? ⟨gkb, 4, none⟩ = some (.int .u32 m4) ∧ w'.cell? ⟨gkb, 5, none⟩ = some (.int .u32 m5) ∧ w'.cell? ⟨gkb, 6, none⟩ = some (.int .u32 m6) ∧ w'.cell? ⟨gkb, 7, none⟩ = some (.int .u32 m7) ∧ w'.cell? ⟨gkb, 8, none⟩ = some (.slice Am mr.length cm) ∧ w'.cell? ⟨gkb, 9, none⟩ = some (.int .u64 mm) ∧ w'.cell? ⟨w.heap.size + 1, 0, none⟩ = some (.int .u32 h0) ∧ w'.cell? ⟨w.heap.size + 1, 1, none⟩ = some (.int .u32 h1) ∧ w'.cell? ⟨w.heap.size + 1, 2, none⟩ = some (.int .u32 h2) ∧ w'.cell? ⟨w.heap.size + 1, 3, none⟩ = some (.int .u32 h3) ∧ w'.cell? ⟨w.heap.size + 1, 4, none⟩ = some (.int .u32 h4) ∧ w'.cell? ⟨w.heap.size + 1, 5, none⟩ = some (.int .u32 h5) ∧ w'.cell? ⟨w.heap.size + 1, 6, none⟩ = some (.int .u32 h6) ∧ w'.cell? ⟨w.heap.size + 1, 7, none⟩ = some (.int .u32 h7) ∧ w'.cell? ⟨w.heap.size + 1, 8, none⟩ = some (.slice A2 l2.length c2) ∧ w'.cell? ⟨w.heap.size + 1, 9, none⟩ = some (.int .u64 m) ∧ w'.cell? ⟨gw, 0, none⟩ = some (.int .u32 (rd la 0)) ∧ w'.cell? ⟨gw, 7, none⟩ = some (.int .u32 (rd la 7)) ∧ (convert 24 9 (.slice Ax x.length cx)).run Tryd.prog w' = .ok (.string (strOfNums x)) w' ∧ (convert 24 9 (.slice Am mr.length cm)).run Tryd.prog w' = .ok (.string (strOfNums mr)) w' ∧ (convert 24 9 (.slice Az mr.length cz)).run Tryd.prog w' = .ok (.string (strOfNums mr)) w' ∧ (convert 24 9 (.slice Ax2 x.length cx2)).run Tryd.prog w' = .ok (.string (strOfNums x)) w') (ds := []) #[false, false, false, false, false, false, false, false, false, false, false, false, false, false, false, false, false, false, false, false, false, false, false, false, false, false, false, false, false, false, false, false, false, false, false, false, false, false, false, false, false, false, false, false, false, false, false, false, false, false, false, false, false, false, false, false, false, false, false, false, false, false, false, false, false, false, false, false, false, false, false, false, false, false, false, false, false, false, false, false, false] (by kernel_rfl) rfl rfl (HSK.out _ H.out) (fun hHeld => ?_)
            refine with_tabW sr.tab26 sr.bits26 (fun HT_ HW_ => ?_)
            generalize w25.drew = wz at H hHeld ⊢
            refine pv_ 0 153 (rA [1,80]) HT_ ?_
            refine pv_ 1 154 (rA [2,79]) HT_ ?_
            refine pv_ 2 155 (rA [3,78]) HT_ ?_
            refine pv_ 3 156 (rA [4,77]) HT_ ?_
            refine pv_ 4 157 (rA [5,76]) HT_ ?_
            refine pv_ 5 158 (rA [6,75]) HT_ ?_
            refine pv_ 6 159 (rA [7,74]) HT_ ?_
            refine pv_ 7 160 (rA [8,73]) HT_ ?_
            refine pv_ 8 161 (rA [9,72]) HT_ ?_
            refine pv_ 9 162 (rA [10,71]) HT_ ?_
            refine pv_ 10 163 (rA [11,70]) HT_ ?_
            refine pv_ 11 164 (rA [12,69]) HT_ ?_
            refine pv_ 13 166 (rA [12,1,1,67]) HT_ ?_
            refine pv_ 16 169 (rA [12,1,1,2,1,64]) HT_ ?_
            refine take_ (i := 12) (N := some 165) (v := ?_) (a' := ?_) (rA [14,2,1,64]) rfl rfl (take_ofW HT_.out HW_.out (by kernel_rfl)) (fun _ _ _ h => h) (Or.inl ⟨by rfl, ?_⟩) hHeld ?_ ?_
            rotate_left
            · rintro w' ⟨s0_, s1_, s2_, s3_, s4_, s5_, s6_, s7_, s8_, s9_, s10_, s11_, s12_, s13_, s14_, s15_, s16_, s17_, s18_, s19_, s20_, s21_, s22_, s23_, s24_, s25_⟩
              go_simp
              with_reducible rfl
            rotate_left
            · simp only [Act.put, sA, s0, sS, i64_w, i32_w]
              rfl
            refine take_ (i := 14) (N := some 167) (v := ?_) (a' := ?_) (rA [15,1,1,64]) rfl rfl (take_ofW HT_.out HW_.out (by kernel_rfl)) (fun _ _ _ h => h) (Or.inl ⟨by rfl, ?_⟩) hHeld ?_ ?_
            rotate_left
            · rintro w' ⟨s0_, s1_, s2_, s3_, s4_, s5_, s6_, s7_, s8_, s9_, s10_, s11_, s12_, s13_, s14_, s15_, s16_, s17_, s18_, s19_, s20_, s21_, s22_, s23_, s24_, s25_⟩
              go_simp
              with_reducible rfl
            rotate_left
            · simp only [Act.put, sA, s0, sS, i64_w, i32_w]
              rfl
            refine one_ (i := 15) (N := some 168) (rA [17,64]) rfl rfl (one_of HT_.out (by kernel_rfl)) (by decide) (fun K hK => ?_)
            refine goes_ Tryd.func19 (by kernel_rfl) rfl #[.agg #[.int .u32 h0, .int .u32 h1, .int .u32 h2, .int .u32 h3, .int .u32 h4, .int .u32 h5, .int .u32 h6, .int .u32 h7]] (by first | rfl | (simp [Region.wanted, yielded, *]; done)) rfl rfl (by (try simp only [mT, mC, mN]); first | done | rfl) ?_
            refine Calls.mono (wristbandlaw02_words.calls k h0 h1 h2 h3 h4 h5 h6 h7 hw _ Q2.out) ?_
            rintro e wa ⟨v, rfl, h0, hb⟩
            refine ⟨_, rfl, ?_⟩
            obtain ⟨Ah, ch, rfl⟩ := Kd.R_slice h0
            have HH := Aside0.mk h0
            have H9 := Aside0.mk (below_step H.out hb); clear H; have H := H9; clear H9
            clear h0 hb
            refine hK.out _ _ (HSK.out _ H.out) (fun hHeld => ?_)
            clear hK K
            refine norm_ (a' := ?_) ?_ ?_
            rotate_left
            · show Act.put _ (some 168) _ = _
              simp only [Act.put, sA, s0, sS, i64_w, i32_w]
              rfl
            refine one_ (i := 17) (N := some 170) (rA [18,63]) rfl rfl (one_of HT_.out (by kernel_rfl)) (by decide) (fun K hK => ?_)
            refine goes_ Tryd.func23 (by kernel_rfl) rfl #[.slice Ah hw.length ch, .slice Ay y.length cy] (by first | rfl | (simp [Region.wanted, yielded, *]; done)) rfl rfl (by (try simp only [mT, mC, mN]); first | done | rfl) ?_
            refine Calls.mono (wristbandref02_From.calls k (fun _ => True) _ _ hw _ _ y fa _ (Kd.V_mono (Kd.R_V HH.out) (fun _ _ => trivial)) (Kd.C_below HYW.out H.out) HYC.out Q5.out) ?_
            rintro e wd ⟨v, rfl, h0, hb⟩
            refine ⟨_, rfl, ?_⟩
            obtain ⟨Af2, cf2, rfl⟩ := Kd.V_slice h0
            have HFA := Aside0.mk (Kd.V_reads' h0)
            have H9 := Aside0.mk (below_step H.out hb); clear H; have H := H9; clear H9
            clear h0 hb
            refine hK.out _ _ (HSK.out _ H.out) (fun hHeld => ?_)
            clear hK K
            refine norm_ (a' := ?_) ?_ ?_
            rotate_left
            · show Act.put _ (some 170) _ = _
              simp only [Act.put, sA, s0, sS, i64_w, i32_w]
              rfl
            refine one_ (i := 18) (N := some 171) (rA [19,62]) rfl rfl (one_of HT_.out (by kernel_rfl)) (by decide) (fun K hK => ?_)
            refine goes_ Tryd.func17 (by kernel_rfl) rfl #[.agg #[.int .u32 m0, .int .u32 m1, .int .u32 m2, .int .u32 m3, .int .u32 m4, .int .u32 m5, .int .u32 m6, .int .u32 m7], .slice Af2 fa.length cf2] (by first | rfl | (simp [Region.wanted, yielded, *]; done)) rfl rfl (by (try simp only [mT, mC, mN]); first | done | rfl) ?_
            refine Calls.mono (wristbandlaw02_same.calls k m0 m1 m2 m3 m4 m5 m6 m7 _ _ fa true _ HFA.out.2.2 HFA.out.2.1 Q6.out) ?_
            rintro e wf ⟨rfl, hb⟩
            refine ⟨_, rfl, ?_⟩
            have H9 := Aside0.mk (below_step H.out hb); clear H; have H := H9; clear H9
            clear hb
            refine hK.out _ _ (HSK.out _ H.out) (fun hHeld => ?_)
            clear hK K
            refine norm_ (a' := ?_) ?_ ?_
            rotate_left
            · show Act.put _ (some 171) _ = _
              simp only [Act.put, sA, s0, sS, i64_w, i32_w]
              rfl
            refine pv_ 19 172 (rA [20,61]) HT_ ?_
            refine pv_ 20 173 (rA [21,60]) HT_ ?_
            refine pv_ 21 174 (rA [22,59]) HT_ ?_
            refine pv_ 24 177 (rA [22,2,1,56]) HT_ ?_
            refine pv_ 25 178 (rA [22,2,2,55]) HT_ ?_
            refine pv_ 26 179 (rA [22,2,3,54]) HT_ ?_
            refine pv_ 27 180 (rA [22,2,4,53]) HT_ ?_
            refine pv_ 28 181 (rA [22,2,5,52]) HT_ ?_
            refine pv_ 29 182 (rA [22,2,6,51]) HT_ ?_
            refine take_ (i := 22) (N := some 175) (v := ?_) (a' := ?_) (rA [23,1,6,51]) rfl rfl (take_ofW HT_.out HW_.out (by kernel_rfl)) (fun _ _ _ h => h) (Or.inl ⟨by rfl, ?_⟩) hHeld ?_ ?_
            rotate_left
            · rintro w' ⟨s0_, s1_, s2_, s3_, s4_, s5_, s6_, s7_, s8_, s9_, s10_, s11_, s12_, s13_, s14_, s15_, s16_, s17_, s18_, s19_, s20_, s21_, s22_, s23_, s24_, s25_⟩
              go_simp
              with_reducible rfl
            rotate_left
            · simp only [Act.put, sA, s0, sS, i64_w, i32_w]
              rfl
            refine take_ (i := 23) (N := some 176) (v := ?_) (a' := ?_) (rA [30,51]) rfl rfl (take_ofW HT_.out HW_.out (by kernel_rfl)) (fun _ _ _ h => h) (Or.inl ⟨by rfl, ?_⟩) hHeld ?_ ?_
            rotate_left
            · rintro w' ⟨s0_, s1_, s2_, s3_, s4_, s5_, s6_, s7_, s8_, s9_, s10_, s11_, s12_, s13_, s14_, s15_, s16_, s17_, s18_, s19_, s20_, s21_, s22_, s23_, s24_, s25_⟩
              go_simp
              with_reducible rfl
            rotate_left
            · simp only [Act.put, sA, s0, sS, i64_w, i32_w]
              rfl
            refine take_ (i := 30) (N := some 183) (v := ?_) (a' := ?_) (rA [31,50]) rfl rfl (take_ofW HT_.out HW_.out (by kernel_rfl)) (fun _ _ _ h => h) (Or.inl ⟨by rfl, ?_⟩) hHeld ?_ ?_
            rotate_left
            · rintro w' ⟨s0_, s1_, s2_, s3_, s4_, s5_, s6_, s7_, s8_, s9_, s10_, s11_, s12_, s13_, s14_, s15_, s16_, s17_, s18_, s19_, s20_, s21_, s22_, s23_, s24_, s25_⟩
              go_simp
              with_reducible rfl
            rotate_left
            · simp only [Act.put, sA, s0, sS, i64_w, i32_w]
              rfl
            refine pv_ 31 184 (rA [32,49]) HT_ ?_
            refine pv_ 32 185 (rA [33,48]) HT_ ?_
            refine pv_ 33 186 (rA [34,47]) HT_ ?_
            refine pv_ 34 187 (rA [35,46]) HT_ ?_
            refine pv_ 36 189 (rA [35,1,1,44]) HT_ ?_
            refine pv_ 38 191 (rA [35,1,1,1,1,42]) HT_ ?_
            refine pv_ 39 192 (rA [35,1,1,1,2,41]) HT_ ?_
            refine pv_ 40 193 (rA [35,1,1,1,3,40]) HT_ ?_
            refine take_ (i := 35) (N := some 188) (v := ?_) (a' := ?_) (rA [37,1,3,40]) rfl rfl (take_ofW HT_.out HW_.out (by kernel_rfl)) (fun _ _ _ h => h) (Or.inl ⟨by rfl, ?_⟩) hHeld ?_ ?_
            rotate_left
            · rintro w' ⟨s0_, s1_, s2_, s3_, s4_, s5_, s6_, s7_, s8_, s9_, s10_, s11_, s12_, s13_, s14_, s15_, s16_, s17_, s18_, s19_, s20_, s21_, s22_, s23_, s24_, s25_⟩
              go_simp
              with_reducible rfl
            rotate_left
            · simp only [Act.put, sA, s0, sS, i64_w, i32_w]
              rfl
            refine take_ (i := 37) (N := some 190) (v := ?_) (a' := ?_) (rA [41,40]) rfl rfl (take_ofW HT_.out HW_.out (by kernel_rfl)) (fun _ _ _ h => h) (Or.inl ⟨by rfl, ?_⟩) hHeld ?_ ?_
            rotate_left
            · rintro w' ⟨s0_, s1_, s2_, s3_, s4_, s5_, s6_, s7_, s8_, s9_, s10_, s11_, s12_, s13_, s14_, s15_, s16_, s17_, s18_, s19_, s20_, s21_, s22_, s23_, s24_, s25_⟩
              go_simp
              with_reducible rfl
            rotate_left
            · simp only [Act.put, sA, s0, sS, i64_w, i32_w]
              rfl
            refine pv_ 41 194 (rA [42,39]) HT_ ?_
            refine pv_ 42 195 (rA [43,38]) HT_ ?_
            refine pv_ 43 196 (rA [44,37]) HT_ ?_
            refine pv_ 44 197 (rA [45,36]) HT_ ?_
            refine pv_ 45 198 (rA [46,35]) HT_ ?_
            refine pv_ 46 199 (rA [47,34]) HT_ ?_
            refine pv_ 47 200 (rA [48,33]) HT_ ?_
            refine pv_ 48 201 (rA [49,32]) HT_ ?_
            refine pv_ 49 202 (rA [50,31]) HT_ ?_
            refine pv_ 50 203 (rA [51,30]) HT_ ?_
            refine pv_ 52 205 (rA [51,1,1,28]) HT_ ?_
            refine take_ (i := 51) (N := some 204) (v := ?_) (a' := ?_) (rA [53,28]) rfl rfl (take_ofW HT_.out HW_.out (by kernel_rfl)) (fun _ _ _ h => h) (Or.inl ⟨by rfl, ?_⟩) hHeld ?_ ?_
            rotate_left
            · rintro w' ⟨s0_, s1_, s2_, s3_, s4_, s5_, s6_, s7_, s8_, s9_, s10_, s11_, s12_, s13_, s14_, s15_, s16_, s17_, s18_, s19_, s20_, s21_, s22_, s23_, s24_, s25_⟩
              go_simp
              with_reducible rfl
            rotate_left
            · simp only [Act.put, sA, s0, sS, i64_w, i32_w]
              rfl
            refine take_ (i := 53) (N := some 206) (v := ?_) (a' := ?_) (rA [54,27]) rfl rfl (take_ofW HT_.out HW_.out (by kernel_rfl)) (fun _ _ _ h => h) (Or.inl ⟨by rfl, ?_⟩) hHeld ?_ ?_
            rotate_left
            · rintro w' ⟨s0_, s1_, s2_, s3_, s4_, s5_, s6_, s7_, s8_, s9_, s10_, s11_, s12_, s13_, s14_, s15_, s16_, s17_, s18_, s19_, s20_, s21_, s22_, s23_, s24_, s25_⟩
              go_simp
              with_reducible rfl
            rotate_left
            · simp only [Act.put, sA, s0, sS, i64_w, i32_w]
              rfl
            refine pv_ 54 207 (rA [55,26]) HT_ ?_
            refine pv_ 55 208 (rA [56,25]) HT_ ?_
            refine pv_ 56 209 (rA [57,24]) HT_ ?_
            refine pv_ 57 210 (rA [58,23]) HT_ ?_
            refine pv_ 59 212 (rA [58,1,1,21]) HT_ ?_
            refine pv_ 60 213 (rA [58,1,2,20]) HT_ ?_
            refine take_ (i := 61) (N := some 214) (v := ?_) (a' := ?_) (rA [58,1,3,19]) rfl rfl (take_ofW HT_.out HW_.out (by kernel_rfl)) (fun _ _ _ h => h) (Or.inl ⟨by rfl, ?_⟩) hHeld ?_ ?_
            rotate_left
            · rintro w' ⟨s0_, s1_, s2_, s3_, s4_, s5_, s6_, s7_, s8_, s9_, s10_, s11_, s12_, s13_, s14_, s15_, s16_, s17_, s18_, s19_, s20_, s21_, s22_, s23_, s24_, s25_⟩
              go_simp
              with_reducible rfl
            rotate_left
            · simp only [Act.put, sA, s0, sS, i64_w, i32_w]
              rfl
            refine one_ (i := 58) (N := some 211) (rA [62,19]) rfl rfl (one_of HT_.out (by kernel_rfl)) (by decide) (fun K hK => ?_)
            refine goes_ Tryd.func24 (by kernel_rfl) rfl #[.slice Ax x.length cx, .int .i64 0] (by first | rfl | (simp [Region.wanted, yielded, *]; done)) rfl rfl (by (try simp only [mT, mC, mN]); first | done | rfl) ?_
            refine Calls.mono (wristbandlaw02_number.calls _ _ x 0 (rd la 0) _ (Kd.C_below HX.out H.out) HXC.out Q7.out) ?_
            rintro e wg ⟨rfl, hd⟩
            refine ⟨_, rfl, ?_⟩
            have hb := hd.below
            have H9 := Aside0.mk (below_step H.out hb); clear H; have H := H9; clear H9
            clear hb hd
            refine hK.out _ _ (HSK.out _ H.out) (fun hHeld => ?_)
            clear hK K
            refine norm_ (a' := ?_) ?_ ?_
            rotate_left
            · show Act.put _ (some 211) _ = _
              simp only [Act.put, sA, s0, sS, i64_w, i32_w]
              rfl
            refine pv_ 62 215 (rA [63,18]) HT_ ?_
            refine pv_ 63 216 (rA [64,17]) HT_ ?_
            refine pv_ 64 217 (rA [65,16]) HT_ ?_
            refine pv_ 65 218 (rA [66,15]) HT_ ?_
            refine pv_ 67 220 (rA [66,1,1,13]) HT_ ?_
            refine pv_ 68 221 (rA [66,1,2,12]) HT_ ?_
            refine take_ (i := 69) (N := some 222) (v := ?_) (a' := ?_) (rA [66,1,3,11]) rfl rfl (take_ofW HT_.out HW_.out (by kernel_rfl)) (fun _ _ _ h => h) (Or.inl ⟨by rfl, ?_⟩) hHeld ?_ ?_
            rotate_left
            · rintro w' ⟨s0_, s1_, s2_, s3_, s4_, s5_, s6_, s7_, s8_, s9_, s10_, s11_, s12_, s13_, s14_, s15_, s16_, s17_, s18_, s19_, s20_, s21_, s22_, s23_, s24_, s25_⟩
              go_simp
              with_reducible rfl
            rotate_left
            · simp only [Act.put, sA, s0, sS, i64_w, i32_w]
              rfl
            refine one_ (i := 66) (N := some 219) (rA [70,11]) rfl rfl (one_of HT_.out (by kernel_rfl)) (by decide) (fun K hK => ?_)
            refine goes_ Tryd.func24 (by kernel_rfl) rfl #[.slice Ax x.length cx, .int .i64 28] (by first | rfl | (simp [Region.wanted, yielded, *]; done)) rfl rfl (by (try simp only [mT, mC, mN]); first | done | rfl) ?_
            refine Calls.mono (wristbandlaw02_number.calls _ _ x 28 (rd la 7) _ (Kd.C_below HX.out H.out) HXC.out Q8.out) ?_
            rintro e wi ⟨rfl, hd⟩
            refine ⟨_, rfl, ?_⟩
            have hb := hd.below
            have H9 := Aside0.mk (below_step H.out hb); clear H; have H := H9; clear H9
            clear hb hd
            refine hK.out _ _ (HSK.out _ H.out) (fun hHeld => ?_)
            clear hK K
            refine norm_ (a' := ?_) ?_ ?_
            rotate_left
            · show Act.put _ (some 219) _ = _
              simp only [Act.put, sA, s0, sS, i64_w, i32_w]
              rfl
            refine pv_ 70 223 (rA [71,10]) HT_ ?_
            refine pv_ 71 224 (rA [72,9]) HT_ ?_
            refine pv_ 72 225 (rA [73,8]) HT_ ?_
            refine pv_ 73 226 (rA [74,7]) HT_ ?_
            refine pv_ 75 228 (rA [74,1,1,5]) HT_ ?_
            refine take_ (i := 74) (N := some 227) (v := ?_) (a' := ?_) (rA [76,5]) rfl rfl (take_ofW HT_.out HW_.out (by kernel_rfl)) (fun _ _ _ h => h) (Or.inl ⟨by rfl, ?_⟩) hHeld ?_ ?_
            rotate_left
            · rintro w' ⟨s0_, s1_, s2_, s3_, s4_, s5_, s6_, s7_, s8_, s9_, s10_, s11_, s12_, s13_, s14_, s15_, s16_, s17_, s18_, s19_, s20_, s21_, s22_, s23_, s24_, s25_⟩
              go_simp
              with_reducible rfl
            rotate_left
            · simp only [Act.put, sA, s0, sS, i64_w, i32_w]
              rfl
            refine one_ (i := 76) (N := some 229) (rA [77,4]) rfl rfl (one_of HT_.out (by kernel_rfl)) (by decide) (fun K hK => ?_)
            refine goes_ Tryd.func25 (by kernel_rfl) rfl #[.slice Al la.length cq] (by first | rfl | (simp [Region.wanted, yielded, *]; done)) rfl rfl (by (try simp only [mT, mC, mN]); first | done | rfl) ?_
            refine Calls.mono (wristbandlaw02_bytes.calls k _ _ la x _ (Kd.C_below HLAW.out H.out) HLC.out Q9.out) ?_
            rintro e wj ⟨v, rfl, h0, hb⟩
            refine ⟨_, rfl, ?_⟩
            obtain ⟨Axb, cxb, rfl⟩ := Kd.R_slice h0
            have HXB := Aside0.mk (Kd.R_reads' h0).2.2
            have H9 := Aside0.mk (below_step H.out hb); clear H; have H := H9; clear H9
            clear h0 hb
            refine hK.out _ _ (HSK.out _ H.out) (fun hHeld => ?_)
            clear hK K
            refine norm_ (a' := ?_) ?_ ?_
            rotate_left
            · show Act.put _ (some 229) _ = _
              simp only [Act.put, sA, s0, sS, i64_w, i32_w]
              rfl
            refine one_ (i := 77) (N := some 230) (rA [78,3]) rfl rfl (one_of HT_.out (by kernel_rfl)) (by decide) (fun K hK => ?_)
            refine str_step (src := 24) (dst := 9) (x := .tmp 229) ?hw rfl ?hx (sr.str (c := cxb) HXB.out) ?_
            (case hw => first | rfl | (simp [Region.wanted, yielded, *]; done))
            (case hx => rfl)
            intro wl hb
            have H9 := Aside0.mk (below_step H.out hb); clear H; have H := H9; clear H9
            clear hb
            refine hK.out _ _ (HSK.out _ H.out) (fun hHeld => ?_)
            clear hK K
            refine norm_ (a' := ?_) ?_ ?_
            rotate_left
            · show Act.put _ (some 230) _ = _
              simp only [Act.put, sA, s0, sS, i64_w, i32_w]
              rfl
            refine pv_ 78 231 (rA [79,2]) HT_ ?_
            refine pv_ 79 232 (rA [80,1]) HT_ ?_
            refine pv_ 80 6 (rA [81]) HT_ ?_
            refine done_ (done_of HT_.out (by kernel_rfl)) ?_
            go_wp2
            go_ret
            exact ⟨rfl, below_step HB.out H.out⟩
def G23 (x_ : S23) : Prop := (fun n_ : Int => (Lit.int .u32 n_).wf = true) x_.f0 ∧ (fun n_ : Int => (Lit.int .u32 n_).wf = true) x_.f1 ∧ (fun n_ : Int => (Lit.int .u32 n_).wf = true) x_.f2 ∧ (fun n_ : Int => (Lit.int .u32 n_).wf = true) x_.f3 ∧ (fun n_ : Int => (Lit.int .u32 n_).wf = true) x_.f4 ∧ (fun n_ : Int => (Lit.int .u32 n_).wf = true) x_.f5 ∧ (fun n_ : Int => (Lit.int .u32 n_).wf = true) x_.f6 ∧ (fun n_ : Int => (Lit.int .u32 n_).wf = true) x_.f7
def G27 (x_ : S27) : Prop := G23 x_.f0 ∧ (fun xs_ : List Int => xs_.length ≤ maxLen ∧ ∀ x_ ∈ xs_, (fun n_ : Int => (Lit.int .u8 n_).wf = true) x_) x_.f1 ∧ (fun n_ : Int => (Lit.int .u64 n_).wf = true) x_.f2
theorem opens23 : Opens Tryd.prog 23 k23 G23 := opens_iso (opens_array (fs := [fld 22 0, fld 22 1, fld 22 2, fld 22 3, fld 22 4, fld 22 5, fld 22 6, fld 22 7]) (by kernel_rfl) Tryd.underlying23 rfl (opens_cons (opens_int Tryd.underlying22) rfl (by kernel_rfl) (opens_cons (opens_int Tryd.underlying22) rfl (by kernel_rfl) (opens_cons (opens_int Tryd.underlying22) rfl (by kernel_rfl) (opens_cons (opens_int Tryd.underlying22) rfl (by kernel_rfl) (opens_cons (opens_int Tryd.underlying22) rfl (by kernel_rfl) (opens_cons (opens_int Tryd.underlying22) rfl (by kernel_rfl) (opens_cons (opens_int Tryd.underlying22) rfl (by kernel_rfl) (opens_one (opens_int Tryd.underlying22) rfl (by kernel_rfl))))))))) (by kernel_rfl)) (fun p_ => (⟨p_.1, p_.2.1, p_.2.2.1, p_.2.2.2.1, p_.2.2.2.2.1, p_.2.2.2.2.2.1, p_.2.2.2.2.2.2.1, p_.2.2.2.2.2.2.2⟩ : S23)) (fun _ => rfl)
theorem opens27 : Opens Tryd.prog 27 k27 G27 := opens_iso (opens_struct Tryd.underlying27 (opens_cons (opens23) rfl (by kernel_rfl) (opens_cons (opens_slice Tryd.underlying24 (opens_int Tryd.underlying5) (by kernel_rfl)) rfl (by kernel_rfl) (opens_one (opens_int Tryd.underlying25) rfl (by kernel_rfl)))) (by kernel_rfl)) (fun p_ => (⟨p_.1, p_.2.1, p_.2.2⟩ : S27)) (fun _ => rfl)
theorem wristbandlaw02_ShaRight.open0 {H : Type} {enc : TypeId × Value → H} {W : World} {base : Nat} {sp : Nat → Bool} {held : Bool} {cs : Array Value} {x : DataW H} {p : List MemPlace} (hT : DataW.Trod enc Tryd.prog W base sp held 23 (.agg cs) x p) : ∃ (a0_0 : Int) (a0_1 : Int) (a0_2 : Int) (a0_3 : Int) (a0_4 : Int) (a0_5 : Int) (a0_6 : Int) (a0_7 : Int), Value.agg cs = .agg #[.int .u32 a0_0, .int .u32 a0_1, .int .u32 a0_2, .int .u32 a0_3, .int .u32 a0_4, .int .u32 a0_5, .int .u32 a0_6, .int .u32 a0_7] ∧ (Lit.int .u32 a0_0).wf = true ∧ (Lit.int .u32 a0_1).wf = true ∧ (Lit.int .u32 a0_2).wf = true ∧ (Lit.int .u32 a0_3).wf = true ∧ (Lit.int .u32 a0_4).wf = true ∧ (Lit.int .u32 a0_5).wf = true ∧ (Lit.int .u32 a0_6).wf = true ∧ (Lit.int .u32 a0_7).wf = true := by
  obtain ⟨fuel, hf⟩ := hT
  obtain ⟨z, hk, hg⟩ := opens23 enc W base sp held fuel _ _ hf
  change k23.K W z cs.toList at hk
  obtain ⟨hg_0, hg_1, hg_2, hg_3, hg_4, hg_5, hg_6, hg_7⟩ := hg
  obtain ⟨ca1, cb1, ea1, ha1, hb1⟩ := hk
  have q2 : ca1 = [.int .u32 z.f0] := ha1
  obtain ⟨ca3, cb3, ea3, ha3, hb3⟩ := hb1
  have q4 : ca3 = [.int .u32 z.f1] := ha3
  obtain ⟨ca5, cb5, ea5, ha5, hb5⟩ := hb3
  have q6 : ca5 = [.int .u32 z.f2] := ha5
  obtain ⟨ca7, cb7, ea7, ha7, hb7⟩ := hb5
  have q8 : ca7 = [.int .u32 z.f3] := ha7
  obtain ⟨ca9, cb9, ea9, ha9, hb9⟩ := hb7
  have q10 : ca9 = [.int .u32 z.f4] := ha9
  obtain ⟨ca11, cb11, ea11, ha11, hb11⟩ := hb9
  have q12 : ca11 = [.int .u32 z.f5] := ha11
  obtain ⟨ca13, cb13, ea13, ha13, hb13⟩ := hb11
  have q14 : ca13 = [.int .u32 z.f6] := ha13
  have q15 : cb13 = [.int .u32 z.f7] := hb13
  exact ⟨z.f0, z.f1, z.f2, z.f3, z.f4, z.f5, z.f6, z.f7, congrArg Value.agg (Array.toList_inj.1 (by rw [ea1, q2, ea3, q4, ea5, q6, ea7, q8, ea9, q10, ea11, q12, ea13, q14, q15]; rfl)), hg_0, hg_1, hg_2, hg_3, hg_4, hg_5, hg_6, hg_7⟩
theorem wristbandlaw02_ShaRight.open2 {H : Type} {enc : TypeId × Value → H} {W : World} {base : Nat} {sp : Nat → Bool} {held : Bool} {cs : Array Value} {x : DataW H} {p : List MemPlace} (hT : DataW.Trod enc Tryd.prog W base sp held 27 (.agg cs) x p) : ∃ (a2_0 : Int) (a2_1 : Int) (a2_2 : Int) (a2_3 : Int) (a2_4 : Int) (a2_5 : Int) (a2_6 : Int) (a2_7 : Int) (A2_8 : Option Addr) (c2_8 : Nat) (l2_8 : List Int) (a2_9 : Int), Value.agg cs = .agg #[.int .u32 a2_0, .int .u32 a2_1, .int .u32 a2_2, .int .u32 a2_3, .int .u32 a2_4, .int .u32 a2_5, .int .u32 a2_6, .int .u32 a2_7, .slice A2_8 l2_8.length c2_8, .int .u64 a2_9] ∧ (Lit.int .u32 a2_0).wf = true ∧ (Lit.int .u32 a2_1).wf = true ∧ (Lit.int .u32 a2_2).wf = true ∧ (Lit.int .u32 a2_3).wf = true ∧ (Lit.int .u32 a2_4).wf = true ∧ (Lit.int .u32 a2_5).wf = true ∧ (Lit.int .u32 a2_6).wf = true ∧ (Lit.int .u32 a2_7).wf = true ∧ (l2_8.length ≤ c2_8 ∧ Kd.C (Kd.int .u8) W A2_8 l2_8.length l2_8 ∧ (l2_8.length ≤ maxLen ∧ ∀ x_ ∈ l2_8, (fun n_ : Int => (Lit.int .u8 n_).wf = true) x_)) ∧ (Lit.int .u64 a2_9).wf = true := by
  obtain ⟨fuel, hf⟩ := hT
  obtain ⟨z, hk, hg⟩ := opens27 enc W base sp held fuel _ _ hf
  change k27.K W z cs.toList at hk
  obtain ⟨hg_0, hg_1, hg_2⟩ := hg
  obtain ⟨ca1, cb1, ea1, ha1, hb1⟩ := hk
  obtain ⟨hg_0_0, hg_0_1, hg_0_2, hg_0_3, hg_0_4, hg_0_5, hg_0_6, hg_0_7⟩ := hg_0
  obtain ⟨ca2, cb2, ea2, ha2, hb2⟩ := ha1
  have q3 : ca2 = [.int .u32 z.f0.f0] := ha2
  obtain ⟨ca4, cb4, ea4, ha4, hb4⟩ := hb2
  have q5 : ca4 = [.int .u32 z.f0.f1] := ha4
  obtain ⟨ca6, cb6, ea6, ha6, hb6⟩ := hb4
  have q7 : ca6 = [.int .u32 z.f0.f2] := ha6
  obtain ⟨ca8, cb8, ea8, ha8, hb8⟩ := hb6
  have q9 : ca8 = [.int .u32 z.f0.f3] := ha8
  obtain ⟨ca10, cb10, ea10, ha10, hb10⟩ := hb8
  have q11 : ca10 = [.int .u32 z.f0.f4] := ha10
  obtain ⟨ca12, cb12, ea12, ha12, hb12⟩ := hb10
  have q13 : ca12 = [.int .u32 z.f0.f5] := ha12
  obtain ⟨ca14, cb14, ea14, ha14, hb14⟩ := hb12
  have q15 : ca14 = [.int .u32 z.f0.f6] := ha14
  have q16 : cb14 = [.int .u32 z.f0.f7] := hb14
  obtain ⟨ca17, cb17, ea17, ha17, hb17⟩ := hb1
  obtain ⟨A18, c18, q18, hl18, hC18⟩ := ha17
  have q19 : cb17 = [.int .u64 z.f2] := hb17
  exact ⟨z.f0.f0, z.f0.f1, z.f0.f2, z.f0.f3, z.f0.f4, z.f0.f5, z.f0.f6, z.f0.f7, A18, c18, z.f1, z.f2, congrArg Value.agg (Array.toList_inj.1 (by rw [ea1, ea2, q3, ea4, q5, ea6, q7, ea8, q9, ea10, q11, ea12, q13, ea14, q15, q16, ea17, q18, q19]; rfl)), hg_0_0, hg_0_1, hg_0_2, hg_0_3, hg_0_4, hg_0_5, hg_0_6, hg_0_7, ⟨hl18, hC18, hg_1⟩, hg_2⟩
/-- What both answer. -/
def wristbandlaw02_ShaRight.Pure : Prop := ∀ (a0_0 : Int) (a0_1 : Int) (a0_2 : Int) (a0_3 : Int) (a0_4 : Int) (a0_5 : Int) (a0_6 : Int) (a0_7 : Int) (l1 : List Int) (a2_0 : Int) (a2_1 : Int) (a2_2 : Int) (a2_3 : Int) (a2_4 : Int) (a2_5 : Int) (a2_6 : Int) (a2_7 : Int) (l2_8 : List Int) (a2_9 : Int), (Lit.int .u32 a0_0).wf = true → (Lit.int .u32 a0_1).wf = true → (Lit.int .u32 a0_2).wf = true → (Lit.int .u32 a0_3).wf = true → (Lit.int .u32 a0_4).wf = true → (Lit.int .u32 a0_5).wf = true → (Lit.int .u32 a0_6).wf = true → (Lit.int .u32 a0_7).wf = true → l1.length ≤ maxLen → l1.length * 1 ≤ 140737488351232 → (∀ x ∈ l1, (Lit.int .u8 x).wf = true) → (Lit.int .u32 a2_0).wf = true → (Lit.int .u32 a2_1).wf = true → (Lit.int .u32 a2_2).wf = true → (Lit.int .u32 a2_3).wf = true → (Lit.int .u32 a2_4).wf = true → (Lit.int .u32 a2_5).wf = true → (Lit.int .u32 a2_6).wf = true → (Lit.int .u32 a2_7).wf = true → l2_8.length ≤ maxLen → (∀ x ∈ l2_8, (fun n_ : Int => (Lit.int .u8 n_).wf = true) x) → (Lit.int .u64 a2_9).wf = true → ∃ k, wristbandlaw02_awake.f k = some true ∧ (2000 < l1.length ∨ 2000 < l2_8.length ∨ (¬ 2000 < l1.length ∧ ¬ 2000 < l2_8.length ∧ ∃ (sm : List Int) (t0 t1 t2 t3 t4 t5 t6 t7 er : Int), sha_Sum.f k l1 = some sm ∧ wristbandref02_Sum.f k l1 = some sm ∧ sha_Block.f k a0_0 a0_1 a0_2 a0_3 a0_4 a0_5 a0_6 a0_7 l1 = some (t0, t1, t2, t3, t4, t5, t6, t7, er) ∧ ((l1.length = 64 ∧ er = 0 ∧ ∃ ws rb : List Int, wristbandlaw02_words.f k a0_0 a0_1 a0_2 a0_3 a0_4 a0_5 a0_6 a0_7 = some ws ∧ wristbandref02_Block.f k ws l1 = some rb ∧ wristbandlaw02_same.f k t0 t1 t2 t3 t4 t5 t6 t7 rb = some true) ∨ (l1.length ≠ 64 ∧ er = 1 ∧ t0 = 0 ∧ t1 = 0 ∧ t2 = 0 ∧ t3 = 0 ∧ t4 = 0 ∧ t5 = 0 ∧ t6 = 0 ∧ t7 = 0)) ∧ ∃ (m0 m1 m2 m3 m4 m5 m6 m7 : Int) (mr : List Int) (mm me : Int) (x : List Int) (g : Int), sha_More.f k a2_0 a2_1 a2_2 a2_3 a2_4 a2_5 a2_6 a2_7 l2_8 a2_9 l1 = some (m0, m1, m2, m3, m4, m5, m6, m7, mr, mm, me) ∧ sha_End.f k a2_0 a2_1 a2_2 a2_3 a2_4 a2_5 a2_6 a2_7 l2_8 a2_9 = some (x, g) ∧ ((64 ≤ l2_8.length ∧ me = 1 ∧ g = 1 ∧ x = [] ∧ m0 = a2_0 ∧ m1 = a2_1 ∧ m2 = a2_2 ∧ m3 = a2_3 ∧ m4 = a2_4 ∧ m5 = a2_5 ∧ m6 = a2_6 ∧ m7 = a2_7 ∧ mr = l2_8 ∧ mm = a2_9) ∨ (l2_8.length < 64 ∧ me = 0 ∧ g = 0 ∧ mm = IntKind.u64.wrap (a2_9 + IntKind.u64.wrap (l1.length : Int)) ∧ mr = (l2_8 ++ l1).drop ((l2_8 ++ l1).length / 64 * 64) ∧ x.length = 32 ∧ ∃ fl hw la fa : List Int, wristbandref02_Fill.f k l2_8 a2_9 = some fl ∧ wristbandlaw02_words.f k a2_0 a2_1 a2_2 a2_3 a2_4 a2_5 a2_6 a2_7 = some hw ∧ wristbandref02_From.f k hw fl = some la ∧ la.length = 8 ∧ wristbandref02_From.f k hw (l2_8 ++ l1) = some fa ∧ wristbandlaw02_same.f k m0 m1 m2 m3 m4 m5 m6 m7 fa = some true ∧ wristbandlaw02_number.f x 0 = some (rd la 0) ∧ wristbandlaw02_number.f x 28 = some (rd la 7) ∧ wristbandlaw02_bytes.f k la = some x))))
theorem wristbandlaw02_ShaRight.walk (P : wristbandlaw02_ShaRight.Pure) (a0_0 : Int) (a0_1 : Int) (a0_2 : Int) (a0_3 : Int) (a0_4 : Int) (a0_5 : Int) (a0_6 : Int) (a0_7 : Int) (a1 : Option Addr) (len1 cap1 : Nat) (z1 : List Int) (a2_0 : Int) (a2_1 : Int) (a2_2 : Int) (a2_3 : Int) (a2_4 : Int) (a2_5 : Int) (a2_6 : Int) (a2_7 : Int) (A2_8 : Option Addr) (c2_8 : Nat) (l2_8 : List Int) (a2_9 : Int) (w : World) (w0_0 : (Lit.int .u32 a0_0).wf = true) (w0_1 : (Lit.int .u32 a0_1).wf = true) (w0_2 : (Lit.int .u32 a0_2).wf = true) (w0_3 : (Lit.int .u32 a0_3).wf = true) (w0_4 : (Lit.int .u32 a0_4).wf = true) (w0_5 : (Lit.int .u32 a0_5).wf = true) (w0_6 : (Lit.int .u32 a0_6).wf = true) (w0_7 : (Lit.int .u32 a0_7).wf = true) (w1 : (a1 = none ∧ len1 = 0 ∧ cap1 = 0 ∧ z1 = []) ∨ ∃ x, a1 = some x ∧ len1 ≤ cap1 ∧ cap1 ≤ maxLen ∧ z1.length = cap1 ∧ (∀ i, i < z1.length → w.cell? (x.add i) = some (.int .u8 (z1.getD i 0))) ∧ ∀ n ∈ z1, (Lit.int .u8 n).wf = true) (y1 : len1 * 1 ≤ 140737488351232) (w2_0 : (Lit.int .u32 a2_0).wf = true) (w2_1 : (Lit.int .u32 a2_1).wf = true) (w2_2 : (Lit.int .u32 a2_2).wf = true) (w2_3 : (Lit.int .u32 a2_3).wf = true) (w2_4 : (Lit.int .u32 a2_4).wf = true) (w2_5 : (Lit.int .u32 a2_5).wf = true) (w2_6 : (Lit.int .u32 a2_6).wf = true) (w2_7 : (Lit.int .u32 a2_7).wf = true) (w2_8 : l2_8.length ≤ c2_8 ∧ Kd.C (Kd.int .u8) w A2_8 l2_8.length l2_8 ∧ (l2_8.length ≤ maxLen ∧ ∀ x_ ∈ l2_8, (fun n_ : Int => (Lit.int .u8 n_).wf = true) x_)) (w2_9 : (Lit.int .u64 a2_9).wf = true) (hL0_ : Kd.C (Kd.int .u32) w (some ⟨0, 0, none⟩) 64 shaK) (hL1_ : Kd.C (Kd.int .u32) w (some ⟨1, 0, none⟩) 8 shaF) :
   Calls Tryd.prog 3 #[.agg #[.int .u32 a0_0, .int .u32 a0_1, .int .u32 a0_2, .int .u32 a0_3, .int .u32 a0_4, .int .u32 a0_5, .int .u32 a0_6, .int .u32 a0_7], .slice a1 len1 cap1, .agg #[.int .u32 a2_0, .int .u32 a2_1, .int .u32 a2_2, .int .u32 a2_3, .int .u32 a2_4, .int .u32 a2_5, .int .u32 a2_6, .int .u32 a2_7, .slice A2_8 l2_8.length c2_8, .int .u64 a2_9]] w fun e w' => e = .returned (.bool true) ∧ Below w.heap.size w w' := by
  obtain ⟨l1, rfl, hr1, hm1, hw1, hc1⟩ := ReadsInt.ofRowC w1
  obtain ⟨hc2_8, hr2_8, hm2_8, hw2_8⟩ := w2_8
  obtain ⟨k, haw, h | h | ⟨n1, n2, sm, t0, t1, t2, t3, t4, t5, t6, t7, er, hs1, hs2, hbl, h64, m0, m1, m2, m3, m4, m5, m6, m7, mr, mm, me, x, g, hmo, hen, hre⟩⟩ := P a0_0 a0_1 a0_2 a0_3 a0_4 a0_5 a0_6 a0_7 l1 a2_0 a2_1 a2_2 a2_3 a2_4 a2_5 a2_6 a2_7 l2_8 a2_9 w0_0 w0_1 w0_2 w0_3 w0_4 w0_5 w0_6 w0_7 hm1 y1 hw1 w2_0 w2_1 w2_2 w2_3 w2_4 w2_5 w2_6 w2_7 hm2_8 hw2_8 w2_9
  · exact sr.long k a0_0 a0_1 a0_2 a0_3 a0_4 a0_5 a0_6 a0_7 _ _ l1 a2_0 a2_1 a2_2 a2_3 a2_4 a2_5 a2_6 a2_7 _ _ l2_8 a2_9 w (Kd.C_of_reads (d := (0 : Int)) (h1 := fun _ => rfl) hr1) hc1 hr2_8 hc2_8 hL0_ hL1_ haw (.inl h)
  · exact sr.long k a0_0 a0_1 a0_2 a0_3 a0_4 a0_5 a0_6 a0_7 _ _ l1 a2_0 a2_1 a2_2 a2_3 a2_4 a2_5 a2_6 a2_7 _ _ l2_8 a2_9 w (Kd.C_of_reads (d := (0 : Int)) (h1 := fun _ => rfl) hr1) hc1 hr2_8 hc2_8 hL0_ hL1_ haw (.inr h)
  · exact sr.main k a0_0 a0_1 a0_2 a0_3 a0_4 a0_5 a0_6 a0_7 _ _ l1 a2_0 a2_1 a2_2 a2_3 a2_4 a2_5 a2_6 a2_7 _ _ l2_8 a2_9 w (Kd.C_of_reads (d := (0 : Int)) (h1 := fun _ => rfl) hr1) hc1 hr2_8 hc2_8 hL0_ hL1_ haw n1 n2 sm t0 t1 t2 t3 t4 t5 t6 t7 er hs1 hs2 hbl h64 m0 m1 m2 m3 m4 m5 m6 m7 mr mm me x g hmo hen hre
end Go.Proofs.YtnpkhkhlofkbhaaDoor.PShaRight
