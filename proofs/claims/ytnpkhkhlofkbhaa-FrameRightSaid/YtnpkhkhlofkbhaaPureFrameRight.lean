/- The functions of the frame, as plain functions on lists. -/
import Derived.Test.YtnpkhkhlofkbhaaPFrameRightx6
import Derived.OpenShut
set_option linter.unusedVariables false
set_option linter.unusedSimpArgs false
namespace Go.Proofs.Ytnpkhkhlofkbhaa.Pure
open Go.RowKit Go.Proofs.Ytnpkhkhlofkbhaa.PFrameRight Go.Proofs.YtnpkhkhlofkbhaaW.PrintWords Go.Proofs.YtnpkhkhlofkbhaaW.PrintLast Go.Proofs.YtnpkhkhlofkbhaaW.PrintMore

theorem wrap64_id {n : Int} (h0 : -9223372036854775808 ≤ n) (h1 : n ≤ 9223372036854775807) : wrap64 n = n := by unfold wrap64; omega
theorem ex_succ {k n : Nat} (h : n < k) : ∃ m, k = m + 1 := ⟨k - 1, by omega⟩
def Bytes (l : List Int) : Prop := ∀ x ∈ l, 0 ≤ x ∧ x ≤ 255
theorem bytes_of {l : List Int} (h : ∀ x ∈ l, (Lit.int .u8 x).wf = true) : Bytes l := fun x hx => bounds_u8 (h x hx)
theorem rd_at {l : List Int} (i : Nat) (h : i < l.length) : rd l (i : Int) = l[i] := by
  unfold rd
  simp [List.getD_eq_getElem?_getD, List.getElem?_eq_getElem h]
theorem rd_bytes {l : List Int} (h : Bytes l) (i : Int) : 0 ≤ rd l i ∧ rd l i ≤ 255 := by
  unfold rd
  rw [List.getD_eq_getElem?_getD]
  rcases Nat.lt_or_ge i.toNat l.length with hl | hl
  · rw [List.getElem?_eq_getElem hl]; exact h _ (List.getElem_mem hl)
  · rw [List.getElem?_eq_none hl]; simp
theorem Bytes.take {l : List Int} (h : Bytes l) (n : Nat) : Bytes (l.take n) := fun x hx => h x (List.mem_of_mem_take hx)
theorem Bytes.drop {l : List Int} (h : Bytes l) (n : Nat) : Bytes (l.drop n) := fun x hx => h x (List.mem_of_mem_drop hx)
theorem Bytes.cons {a : Int} {l : List Int} (h : Bytes (a :: l)) : (0 ≤ a ∧ a ≤ 255) ∧ Bytes l := ⟨h a (by simp), fun x hx => h x (by simp [hx])⟩
theorem u64w (n : Int) : IntKind.u64.wrap n = n % 18446744073709551616 := by simp [IntKind.wrap, IntKind.bits, IntKind.signed]
theorem wraps_u64 (n : Int) (h₀ : 0 ≤ n) (h₁ : n < 2 ^ 64) : IntKind.u64.wrap n = n := by rw [u64w]; omega
theorem wraps_u32 (n : Int) (h₀ : 0 ≤ n) (h₁ : n < 2 ^ 32) : IntKind.u32.wrap n = n := by rw [IntKind.wrap_u32]; omega
theorem tmod_nn {a b : Int} (h : 0 ≤ a) : Int.tmod a b = a % b := Int.tmod_eq_emod_of_nonneg h
theorem tdiv_nn {a b : Int} (h : 0 ≤ a) : Int.tdiv a b = a / b := Int.tdiv_eq_ediv_of_nonneg h
def vs (v x : Int) : Int := (v * 256) % 18446744073709551616 + x
def val (l : List Int) : Int := l.foldl vs 0
theorem or_step (v x : Int) (h0 : 0 ≤ x) (h1 : x ≤ 255) : Go.bits .or .u64 (IntKind.u64.wrap (v * 256)) (IntKind.u64.wrap x) = vs v x := by
  rw [u64w, u64w, show x % 18446744073709551616 = x by omega]
  exact bits_join .u64 64 (by decide) wraps_u64 8 _ x (by omega) (by omega) (by omega) h0 (by omega) (by omega)
theorem add_step (v x : Int) (h0 : 0 ≤ x) (h1 : x ≤ 255) : IntKind.u64.wrap (IntKind.u64.wrap (256 * v) + IntKind.u64.wrap x) = vs v x := by
  rw [u64w, u64w, u64w]; unfold vs; omega
theorem vs_range (v x : Int) (h0 : 0 ≤ x) (h1 : x ≤ 255) : 0 ≤ vs v x ∧ vs v x < 18446744073709551616 := by unfold vs; omega
theorem foldl_range : ∀ (l : List Int) (v : Int), Bytes l → 0 ≤ v → v < 18446744073709551616 → 0 ≤ l.foldl vs v ∧ l.foldl vs v < 18446744073709551616
  | [], v, _, h0, h1 => ⟨h0, h1⟩
  | a :: l, v, hb, _, _ => by
    have h := vs_range v a hb.cons.1.1 hb.cons.1.2
    exact foldl_range l _ hb.cons.2 h.1 h.2
theorem val_range {l : List Int} (hb : Bytes l) : 0 ≤ val l ∧ val l < 18446744073709551616 := foldl_range l 0 hb (by omega) (by omega)
theorem value_l0 (l : List Int) (hb : Bytes l) (hl : l.length ≤ 9223372036854775806) : ∀ (d k : Nat) (v : Int) (i : Nat), i + d = l.length → d < k → word_value.l0 k v l (l.length : Int) (i : Int) = some ((l.drop i).foldl vs v) := by
  intro d
  induction d with
  | zero =>
    intro k v i hi hk
    obtain ⟨k, rfl⟩ := ex_succ hk
    simp only [word_value.l0]
    rw [if_neg (by omega), List.drop_eq_nil_of_le (by omega)]; rfl
  | succ d ih =>
    intro k v i hi hk
    obtain ⟨k, rfl⟩ := ex_succ hk
    have hlt : i < l.length := by omega
    simp only [word_value.l0]
    rw [if_pos (by omega), if_pos (by omega), if_pos (by omega), or_step _ _ (rd_bytes hb _).1 (rd_bytes hb _).2, wrap64_id (by omega) (by omega), show ((i : Int) + 1) = ((i + 1 : Nat) : Int) by omega, ih k _ (i + 1) (by omega) (by omega), rd_at i hlt, List.drop_eq_getElem_cons hlt]
    rfl
theorem value_f (l : List Int) (hb : Bytes l) (hl : l.length ≤ 9223372036854775806) (k : Nat) (hk : l.length < k) : word_value.f k l = some (val l) := by
  unfold word_value.f
  rw [show (0 : Int) = ((0 : Nat) : Int) from rfl, value_l0 l hb hl l.length k _ 0 (by omega) hk]; rfl
/-! strings of bytes -/
theorem toList_loop (b : ByteArray) : ∀ (d i : Nat) (r : List UInt8), i + d = b.size → ByteArray.toList.loop b i r = r.reverse ++ b.data.toList.drop i := by
  intro d
  induction d with
  | zero =>
    intro i r h
    rw [ByteArray.toList.loop, if_neg (by omega), List.drop_eq_nil_of_le (by rw [Array.length_toList]; show b.size ≤ i; omega), List.append_nil]
  | succ d ih =>
    intro i r h
    have hlt : i < b.size := by omega
    have hl : i < b.data.toList.length := by rw [Array.length_toList]; exact hlt
    have hg : b.get! i = b.data.toList[i] := by
      show b.data[i]! = _
      rw [getElem!_pos b.data i hlt, Array.getElem_toList]
    rw [ByteArray.toList.loop, if_pos hlt, ih (i + 1) _ (by omega), List.drop_eq_getElem_cons hl, hg]
    simp
theorem toList_data (b : ByteArray) : b.toList = b.data.toList := by
  unfold ByteArray.toList
  rw [toList_loop b b.size 0 [] (by omega)]
  simp
theorem str_toList (xs : List Int) : (strOfNums xs).toList = xs.map fun n => UInt8.ofNat n.toNat := by
  rw [toList_data]; simp [strOfNums]
theorem ofNat_inj (a b : Int) (ha : 0 ≤ a ∧ a ≤ 255) (hb : 0 ≤ b ∧ b ≤ 255) (h : UInt8.ofNat a.toNat = UInt8.ofNat b.toNat) : a = b := by
  have h2 := congrArg UInt8.toNat h
  simp only [UInt8.toNat_ofNat'] at h2
  omega
theorem map_inj : ∀ (xs ys : List Int), Bytes xs → Bytes ys → (xs.map fun n => UInt8.ofNat n.toNat) = (ys.map fun n => UInt8.ofNat n.toNat) → xs = ys
  | [], [], _, _, _ => rfl
  | [], _ :: _, _, _, h => by simp at h
  | _ :: _, [], _, _, h => by simp at h
  | x :: xs, y :: ys, hx, hy, h => by
    simp only [List.map_cons, List.cons.injEq] at h
    rw [ofNat_inj x y hx.cons.1 hy.cons.1 h.1, map_inj xs ys hx.cons.2 hy.cons.2 h.2]
theorem str_inj (xs ys : List Int) (hx : Bytes xs) (hy : Bytes ys) : (strOfNums xs).toList = (strOfNums ys).toList ↔ xs = ys := by
  rw [str_toList, str_toList]
  exact ⟨map_inj xs ys hx hy, fun h => by rw [h]⟩
theorem str_beq (xs ys : List Int) (hx : Bytes xs) (hy : Bytes ys) : ((strOfNums xs).toList == (strOfNums ys).toList) = decide (xs = ys) := by
  by_cases h : xs = ys
  · subst h; simp
  · rw [decide_eq_false h, beq_eq_false_iff_ne]
    exact fun h2 => h ((str_inj xs ys hx hy).1 h2)
theorem str_size (xs : List Int) : (strOfNums xs).size = xs.length := by
  show (strOfNums xs).data.size = _
  simp [strOfNums]
theorem str_append (xs ys : List Int) : strOfNums (xs ++ ys) = strOfNums xs ++ strOfNums ys := by
  apply ByteArray.ext
  simp [strOfNums]
theorem str_bt (xs : List Int) (hx : Bytes xs) (i : Nat) (h : i < xs.length) : bt (strOfNums xs) (i : Int) = xs[i] := by
  have hs : i < (strOfNums xs).size := by rw [str_size]; exact h
  have hr := hx xs[i] (List.getElem_mem h)
  unfold bt
  simp only [Int.toNat_natCast]
  rw [dif_pos hs, ByteArray.getElem_eq_getElem_data]
  simp only [strOfNums, List.getElem_toArray, List.getElem_map, UInt8.toNat_ofNat']
  omega
theorem str_extract (xs : List Int) (i : Nat) : (strOfNums xs).extract i (strOfNums xs).size = strOfNums (xs.drop i) := by
  apply ByteArray.ext
  rw [ByteArray.data_extract]
  show ((strOfNums xs).data.extract i (strOfNums xs).data.size) = _
  simp [strOfNums, List.map_drop]
  exact List.take_of_length_le (by simp)
def word4b (x : Int) : List Int := [(x / 16777216) % 256, (x / 65536) % 256, (x / 256) % 256, x % 256]
def bytesOf : List Int → List Int
  | [] => []
  | a :: t => word4b a ++ bytesOf t
theorem word4b_bytes (x : Int) : Bytes (word4b x) := by
  intro y hy
  simp only [word4b, List.mem_cons, List.not_mem_nil, or_false] at hy
  omega
theorem bytesOf_bytes : ∀ l : List Int, Bytes (bytesOf l)
  | [] => fun _ h => by simp [bytesOf] at h
  | a :: t => fun x h => by
    simp only [bytesOf, List.mem_append] at h
    rcases h with h | h
    · exact word4b_bytes a x h
    · exact bytesOf_bytes t x h
def Words (l : List Int) : Prop := ∀ x ∈ l, 0 ≤ x ∧ x < 4294967296
theorem rd_words {l : List Int} (h : Words l) (i : Nat) (hi : i < l.length) : 0 ≤ rd l (i : Int) ∧ rd l (i : Int) < 4294967296 := by
  rw [rd_at i hi]; exact h _ (List.getElem_mem hi)
theorem drop_rd (l : List Int) (i : Nat) (h : i < l.length) : l.drop i = rd l (i : Int) :: l.drop (i + 1) := by
  rw [rd_at i h, List.drop_eq_getElem_cons h]
theorem bytes_l0 (l : List Int) (hl : l.length ≤ 35184372087808) : ∀ (d k : Nat) (out : List Int) (i : Nat), i + d = l.length → d < k → out.length + 4 * d < 140737488355328 → word_Bytes.l0 k out l (l.length : Int) (i : Int) = some (out ++ bytesOf (l.drop i)) := by
  intro d
  induction d with
  | zero =>
    intro k out i hi hk ho
    obtain ⟨k, rfl⟩ := ex_succ hk
    simp only [word_Bytes.l0]
    rw [if_neg (by omega), List.drop_eq_nil_of_le (by omega)]; simp [bytesOf]
  | succ d ih =>
    intro k out i hi hk ho
    obtain ⟨k, rfl⟩ := ex_succ hk
    have hw1 : wrap64 ((i : Int) + 1) = ((i + 1 : Nat) : Int) := by rw [wrap64_id (by omega) (by omega)]; omega
    simp only [word_Bytes.l0, hw1, Option.bind_some]
    clear hw1
    rw [if_pos (by omega), if_pos (by omega), if_pos (by omega), if_pos (by simp only [List.length_cons, List.length_nil]; omega), ih k _ (i + 1) (by omega) (by omega) (by simp only [List.length_append, List.length_cons, List.length_nil]; omega), drop_rd l i (by omega)]
    simp [bytesOf, word4b]
theorem bytes_f (l : List Int) (hl : l.length ≤ 35184372087808) (k : Nat) (hk : l.length < k) : word_Bytes.f k l = some (bytesOf l) := by
  unfold word_Bytes.f
  rw [show (0 : Int) = ((0 : Nat) : Int) from rfl, bytes_l0 l hl l.length k [] 0 (by omega) hk (by simp only [List.length_nil]; omega)]; simp
theorem refValue_l0 (l : List Int) (hb : Bytes l) (hl : l.length ≤ 9223372036854775806) : ∀ (d k : Nat) (v : Int) (i : Nat), i + d = l.length → d < k → wristbandref01_Value.l0 k l v (i : Int) = some ((l.drop i).foldl vs v) := by
  intro d
  induction d with
  | zero =>
    intro k v i hi hk
    obtain ⟨k, rfl⟩ := ex_succ hk
    simp only [wristbandref01_Value.l0]
    rw [if_neg (by omega), List.drop_eq_nil_of_le (by omega)]; rfl
  | succ d ih =>
    intro k v i hi hk
    obtain ⟨k, rfl⟩ := ex_succ hk
    have hlt : i < l.length := by omega
    simp only [wristbandref01_Value.l0]
    rw [if_pos (by omega), if_pos (by omega), add_step _ _ (rd_bytes hb _).1 (rd_bytes hb _).2, wrap64_id (by omega) (by omega), show ((i : Int) + 1) = ((i + 1 : Nat) : Int) by omega, ih k _ (i + 1) (by omega) (by omega), rd_at i hlt, List.drop_eq_getElem_cons hlt]
    rfl
theorem refValue_f (l : List Int) (hb : Bytes l) (hl : l.length ≤ 9223372036854775806) (k : Nat) (hk : l.length < k) : wristbandref01_Value.f k l = some (val l) := by
  unfold wristbandref01_Value.f
  rw [show wristbandref01_Value.l0 k l 0 0 = wristbandref01_Value.l0 k l 0 ((0 : Nat) : Int) from rfl, refValue_l0 l hb hl l.length k _ 0 (by omega) hk]; rfl
def p8 (x : Int) : List Int := [x / 72057594037927936 % 256, x / 281474976710656 % 256, x / 1099511627776 % 256, x / 4294967296 % 256, x / 16777216 % 256, x / 65536 % 256, x / 256 % 256, x % 256]
def U64 (x : Int) : Prop := 0 ≤ x ∧ x < 18446744073709551616
theorem p8_bytes (x : Int) : Bytes (p8 x) := by
  intro y hy
  simp only [p8, List.mem_cons, List.not_mem_nil, or_false] at hy
  omega
theorem put_f (x : Int) (h : U64 x) (k : Nat) (hk : 2 < k) : word_Put.f k x = some (p8 x) := by
  unfold U64 at h
  unfold word_Put.f
  rw [bytes_f _ (by simp) k (by simpa using hk)]
  simp only [Option.bind_some, bytesOf, word4b, List.cons_append, List.nil_append, List.append_nil, p8]
  rw [show x / 4294967296 % 4294967296 / 16777216 % 256 = x / 72057594037927936 % 256 by omega, show x / 4294967296 % 4294967296 / 65536 % 256 = x / 281474976710656 % 256 by omega, show x / 4294967296 % 4294967296 / 256 % 256 = x / 1099511627776 % 256 by omega, show x / 4294967296 % 4294967296 % 256 = x / 4294967296 % 256 by omega, show x % 4294967296 / 16777216 % 256 = x / 16777216 % 256 by omega, show x % 4294967296 / 65536 % 256 = x / 65536 % 256 by omega, show x % 4294967296 / 256 % 256 = x / 256 % 256 by omega, show x % 4294967296 % 256 = x % 256 by omega]
theorem refPut_step (k : Nat) (x : Int) (l : List Int) (i : Nat) (hi : i < 8) (hl : l.length = 8) (h : U64 x) : wristbandref01_Put.l0 (k + 1) x l (i : Int) = wristbandref01_Put.l0 k (x / 256) (l.set (7 - i) (x % 256)) ((i + 1 : Nat) : Int) := by
  unfold U64 at h
  have hw1 : wrap64 ((i : Int) + 1) = ((i + 1 : Nat) : Int) := by rw [wrap64_id (by omega) (by omega)]; omega
  have hw7 : wrap64 (7 - (i : Int)) = ((7 - i : Nat) : Int) := by rw [wrap64_id (by omega) (by omega)]; omega
  have e0 : Int.tmod x 256 = x % 256 := tmod_nn h.1
  have e1 : Int.tdiv x 256 = x / 256 := tdiv_nn h.1
  simp only [wristbandref01_Put.l0, hw1, hw7, e0, e1]
  clear hw1 hw7 e0 e1
  rw [if_pos (by omega), if_pos (by omega), if_pos (by omega), u64w, show x / 256 % 18446744073709551616 = x / 256 by omega, Int.toNat_natCast, show x % 256 % 256 = x % 256 by omega]
theorem u64_div {x : Int} (h : U64 x) : U64 (x / 256) := by unfold U64 at *; omega
theorem refPut_f (x : Int) (h : U64 x) (k : Nat) (hk : 9 ≤ k) : wristbandref01_Put.f k x = some (p8 x) := by
  obtain ⟨k, rfl⟩ : ∃ m, k = m + 1 + 1 + 1 + 1 + 1 + 1 + 1 + 1 + 1 := ⟨k - 9, by omega⟩
  have h1 := u64_div h
  have h2 := u64_div h1
  have h3 := u64_div h2
  have h4 := u64_div h3
  have h5 := u64_div h4
  have h6 := u64_div h5
  have h7 := u64_div h6
  unfold wristbandref01_Put.f
  rw [if_pos (by omega), show (0 : Int) = ((0 : Nat) : Int) from rfl, refPut_step _ _ _ 0 (by omega) (by simp) h, refPut_step _ _ _ 1 (by omega) (by simp) h1, refPut_step _ _ _ 2 (by omega) (by simp) h2, refPut_step _ _ _ 3 (by omega) (by simp) h3, refPut_step _ _ _ 4 (by omega) (by simp) h4, refPut_step _ _ _ 5 (by omega) (by simp) h5, refPut_step _ _ _ 6 (by omega) (by simp) h6, refPut_step _ _ _ 7 (by omega) (by simp) h7]
  simp only [wristbandref01_Put.l0]
  rw [if_neg (by omega)]
  unfold U64 at h
  show some [x / 256 / 256 / 256 / 256 / 256 / 256 / 256 % 256, x / 256 / 256 / 256 / 256 / 256 / 256 % 256, x / 256 / 256 / 256 / 256 / 256 % 256, x / 256 / 256 / 256 / 256 % 256, x / 256 / 256 / 256 % 256, x / 256 / 256 % 256, x / 256 % 256, x % 256] = _
  unfold p8
  rw [show x / 256 / 256 / 256 / 256 / 256 / 256 / 256 = x / 72057594037927936 by omega, show x / 256 / 256 / 256 / 256 / 256 / 256 = x / 281474976710656 by omega, show x / 256 / 256 / 256 / 256 / 256 = x / 1099511627776 by omega, show x / 256 / 256 / 256 / 256 = x / 4294967296 by omega, show x / 256 / 256 / 256 = x / 16777216 by omega, show x / 256 / 256 = x / 65536 by omega]
theorem lt_bitLen : ∀ (k x : Nat), x < 2 ^ 64 → 2 ^ k ≤ x → k < Lib.bitLen x
  | 0, x, h, h1 => by
    rw [Lib.bitLen_half x (by simp at h1; omega) h]; omega
  | k + 1, x, h, h1 => by
    have h2 : 2 ^ (k + 1) = 2 * 2 ^ k := by rw [Nat.pow_succ]; omega
    have h3 : 0 < 2 ^ k := Nat.two_pow_pos k
    have := lt_bitLen k (x / 2) (by omega) (by omega)
    rw [Lib.bitLen_half x (by omega) h]; omega
theorem m_cases (x : Int) (h : U64 x) : ∃ m : Nat, m ≤ 8 ∧ x < 256 ^ m ∧ (m = 0 ∨ 256 ^ (m - 1) ≤ x) := by
  unfold U64 at h
  rcases (show x < 1 ∨ (1 ≤ x ∧ x < 256) ∨ (256 ≤ x ∧ x < 65536) ∨ (65536 ≤ x ∧ x < 16777216) ∨ (16777216 ≤ x ∧ x < 4294967296) ∨ (4294967296 ≤ x ∧ x < 1099511627776) ∨ (1099511627776 ≤ x ∧ x < 281474976710656) ∨ (281474976710656 ≤ x ∧ x < 72057594037927936) ∨ (72057594037927936 ≤ x ∧ x < 18446744073709551616) by omega) with c | c | c | c | c | c | c | c | c
  · exact ⟨0, by omega, by simp only [Int.reducePow]; omega, Or.inl rfl⟩
  · exact ⟨1, by omega, by simp only [Int.reducePow]; omega, Or.inr (by simp only [Nat.reduceSub, Int.reducePow]; omega)⟩
  · exact ⟨2, by omega, by simp only [Int.reducePow]; omega, Or.inr (by simp only [Nat.reduceSub, Int.reducePow]; omega)⟩
  · exact ⟨3, by omega, by simp only [Int.reducePow]; omega, Or.inr (by simp only [Nat.reduceSub, Int.reducePow]; omega)⟩
  · exact ⟨4, by omega, by simp only [Int.reducePow]; omega, Or.inr (by simp only [Nat.reduceSub, Int.reducePow]; omega)⟩
  · exact ⟨5, by omega, by simp only [Int.reducePow]; omega, Or.inr (by simp only [Nat.reduceSub, Int.reducePow]; omega)⟩
  · exact ⟨6, by omega, by simp only [Int.reducePow]; omega, Or.inr (by simp only [Nat.reduceSub, Int.reducePow]; omega)⟩
  · exact ⟨7, by omega, by simp only [Int.reducePow]; omega, Or.inr (by simp only [Nat.reduceSub, Int.reducePow]; omega)⟩
  · exact ⟨8, by omega, by simp only [Int.reducePow]; omega, Or.inr (by simp only [Nat.reduceSub, Int.reducePow]; omega)⟩
theorem bitLen_m (x : Int) (h : U64 x) (m : Nat) (hm : m ≤ 8) (h1 : x < 256 ^ m) (h2 : m = 0 ∨ 256 ^ (m - 1) ≤ x) : (Lib.bitLen x.toNat + 7) / 8 = m := by
  unfold U64 at h
  have hup : Lib.bitLen x.toNat ≤ 8 * m := by
    refine Lib.bitLen_le _ _ (by omega) ?_
    rcases (show m = 0 ∨ m = 1 ∨ m = 2 ∨ m = 3 ∨ m = 4 ∨ m = 5 ∨ m = 6 ∨ m = 7 ∨ m = 8 by omega) with rfl | rfl | rfl | rfl | rfl | rfl | rfl | rfl | rfl <;> (simp only [Int.reducePow, Nat.reduceMul, Nat.reducePow] at h1 ⊢; omega)
  rcases h2 with rfl | h2
  · omega
  · have hlo : 8 * (m - 1) < Lib.bitLen x.toNat ∨ m = 0 := by
      rcases (show m = 0 ∨ m = 1 ∨ m = 2 ∨ m = 3 ∨ m = 4 ∨ m = 5 ∨ m = 6 ∨ m = 7 ∨ m = 8 by omega) with rfl | rfl | rfl | rfl | rfl | rfl | rfl | rfl | rfl
      · exact Or.inr rfl
      all_goals exact Or.inl (lt_bitLen _ _ (by omega) (by simp only [Int.reducePow, Nat.reduceSub, Nat.reduceMul, Nat.reducePow] at h2 ⊢; omega))
    omega
theorem drop_m (x : Int) (h : U64 x) (m : Nat) (hm : m ≤ 8) (h1 : x < 256 ^ m) (h2 : m = 0 ∨ 256 ^ (m - 1) ≤ x) : (p8 x).dropWhile (fun y => decide (y = 0)) = (p8 x).drop (8 - m) := by
  unfold U64 at h
  have z : ∀ {a : Int} {t : List Int}, a = 0 → (a :: t).dropWhile (fun y => decide (y = 0)) = t.dropWhile (fun y => decide (y = 0)) := by
    intro a t ha; simp [List.dropWhile, ha]
  have nz : ∀ {a : Int} {t : List Int}, a ≠ 0 → (a :: t).dropWhile (fun y => decide (y = 0)) = a :: t := by
    intro a t ha; simp [List.dropWhile, ha]
  unfold p8
  rcases (show m = 0 ∨ m = 1 ∨ m = 2 ∨ m = 3 ∨ m = 4 ∨ m = 5 ∨ m = 6 ∨ m = 7 ∨ m = 8 by omega) with rfl | rfl | rfl | rfl | rfl | rfl | rfl | rfl | rfl <;> simp only [Int.reducePow, Nat.reduceSub] at h1 h2
  · rw [z (by omega), z (by omega), z (by omega), z (by omega), z (by omega), z (by omega), z (by omega), z (by omega)]; rfl
  · rw [z (by omega), z (by omega), z (by omega), z (by omega), z (by omega), z (by omega), z (by omega), nz (by omega)]; rfl
  · rw [z (by omega), z (by omega), z (by omega), z (by omega), z (by omega), z (by omega), nz (by omega)]; rfl
  · rw [z (by omega), z (by omega), z (by omega), z (by omega), z (by omega), nz (by omega)]; rfl
  · rw [z (by omega), z (by omega), z (by omega), z (by omega), nz (by omega)]; rfl
  · rw [z (by omega), z (by omega), z (by omega), nz (by omega)]; rfl
  · rw [z (by omega), z (by omega), nz (by omega)]; rfl
  · rw [z (by omega), nz (by omega)]; rfl
  · rw [nz (by omega)]; rfl
theorem refLeast_l0 : ∀ (l : List Int) (k : Nat), l.length < k → l.length < 140737488355328 → wristbandref01_Least.l0 k l = some (l.dropWhile (fun y => decide (y = 0)))
  | [], k, hk, _ => by
    obtain ⟨k, rfl⟩ := ex_succ hk
    simp [wristbandref01_Least.l0]
  | a :: t, k, hk, hl => by
    obtain ⟨k, rfl⟩ := ex_succ (Nat.lt_of_le_of_lt (Nat.zero_le _) hk)
    simp only [List.length_cons] at hk hl
    have hr : rd (a :: t) 0 = a := rfl
    have ih := refLeast_l0 t k (by omega) (by omega)
    simp only [wristbandref01_Least.l0, hr, Option.bind_some, List.length_cons, List.length_nil, List.nil_append]
    rw [if_pos (by omega), if_pos (by omega)]
    by_cases h : a = 0
    · rw [if_pos h, if_pos (by omega), show (a :: t).drop (1 : Int).toNat = t from rfl, ih]; simp [List.dropWhile, h]
    · rw [if_neg h, if_pos (by omega)]; simp [List.dropWhile, h]
theorem cut_eq (b m : Nat) (hb : (b + 7) / 8 = m) (hm : m ≤ 8) (hL : b ≤ 64) : wrap64 (8 - (wrap64 (Int.tdiv (wrap64 ((b : Int) + 7)) 8))) = ((8 - m : Nat) : Int) := by
  rw [wrap64_id (show -9223372036854775808 ≤ (b : Int) + 7 by omega) (by omega), tdiv_nn (show (0 : Int) ≤ (b : Int) + 7 by omega), wrap64_id (show -9223372036854775808 ≤ ((b : Int) + 7) / 8 by omega) (by omega), wrap64_id (by omega) (by omega)]
  omega
theorem len_f (x : Int) (h : U64 x) : bits_Len64.f x = some ((Lib.bitLen x.toNat : Nat) : Int) := by
  unfold U64 at h
  unfold bits_Len64.f
  rw [if_pos h.1, if_pos (by omega)]
theorem clone_f (l : List Int) (h : l.length < 140737488355328) : slices_Clone_byte_byte.f l = some l := by
  unfold slices_Clone_byte_byte.f
  rw [if_pos h]
theorem p8_len (x : Int) : (p8 x).length = 8 := rfl
theorem least_f (x : Int) (h : U64 x) (k : Nat) (hk : 2 < k) (m : Nat) (hm : m ≤ 8) (h1 : x < 256 ^ m) (h2 : m = 0 ∨ 256 ^ (m - 1) ≤ x) : word_Least.f k x = some ((p8 x).drop (8 - m)) := by
  have hb := bitLen_m x h m hm h1 h2
  have hL : Lib.bitLen x.toNat ≤ 64 := by omega
  clear h1 h2
  unfold word_Least.f
  rw [len_f x h]
  simp only [Option.bind_some]
  rw [cut_eq _ m hb hm hL]
  generalize hq : 8 - m = q
  have hql : q ≤ 8 := by omega
  clear hb hL hq
  rw [put_f x h k hk]
  simp only [Option.bind_some]
  rw [if_pos (by omega), p8_len, if_pos (by omega), Int.toNat_natCast, clone_f _ (by rw [List.length_drop, p8_len]; omega)]
  simp only [Option.bind_some]
theorem refLeast_f (x : Int) (h : U64 x) (k : Nat) (hk : 9 ≤ k) (m : Nat) (hm : m ≤ 8) (h1 : x < 256 ^ m) (h2 : m = 0 ∨ 256 ^ (m - 1) ≤ x) : wristbandref01_Least.f k x = some ((p8 x).drop (8 - m)) := by
  unfold wristbandref01_Least.f
  rw [refPut_f x h k hk]
  simp only [Option.bind_some]
  rw [refLeast_l0 (p8 x) k (by rw [p8_len]; omega) (by rw [p8_len]; omega), drop_m x h m hm h1 h2]
/-! a number's least bytes -/
def lb (x : Int) : List Int := (p8 x).dropWhile (fun y => decide (y = 0))
theorem lb_len (x : Int) : (lb x).length ≤ 8 := by
  have := (List.dropWhile_sublist (fun y => decide (y = 0)) (l := p8 x)).length_le
  rw [p8_len] at this; exact this
theorem lb_bytes (x : Int) : Bytes (lb x) := fun y hy => p8_bytes x y ((List.dropWhile_sublist _).subset hy)
theorem least_lb (x : Int) (h : U64 x) (k : Nat) (hk : 9 ≤ k) : word_Least.f k x = some (lb x) := by
  obtain ⟨m, h0, h1, h2⟩ := m_cases x h
  rw [least_f x h k (by omega) m h0 h1 h2, ← drop_m x h m h0 h1 h2]; rfl
theorem refLeast_lb (x : Int) (h : U64 x) (k : Nat) (hk : 9 ≤ k) : wristbandref01_Least.f k x = some (lb x) := by
  obtain ⟨m, h0, h1, h2⟩ := m_cases x h
  rw [refLeast_f x h k hk m h0 h1 h2, ← drop_m x h m h0 h1 h2]; rfl
def num1 (x : Int) : List Int := ((lb x).length : Int) :: lb x
theorem num1_len (x : Int) : (num1 x).length ≤ 9 := by have := lb_len x; unfold num1; rw [List.length_cons]; omega
theorem num1_bytes (x : Int) : Bytes (num1 x) := fun y hy => by
  unfold num1 at hy
  rcases List.mem_cons.1 hy with rfl | hy
  · have := lb_len x; omega
  · exact lb_bytes x y hy
def wr (a b c : Int) (tag : List Int) : List Int := 87 :: (num1 a ++ (num1 b ++ (num1 c ++ tag)))
theorem wr_bytes (a b c : Int) (tag : List Int) (h : Bytes tag) : Bytes (wr a b c tag) := fun y hy => by
  unfold wr at hy
  rcases List.mem_cons.1 hy with rfl | hy
  · omega
  · rcases List.mem_append.1 hy with hy | hy
    · exact num1_bytes a y hy
    · rcases List.mem_append.1 hy with hy | hy
      · exact num1_bytes b y hy
      · rcases List.mem_append.1 hy with hy | hy
        · exact num1_bytes c y hy
        · exact h y hy
theorem wr_len (a b c : Int) (tag : List Int) : (wr a b c tag).length ≤ 28 + tag.length := by
  have ha := num1_len a
  have hb := num1_len b
  have hc := num1_len c
  unfold wr
  simp only [List.length_cons, List.length_append]
  omega
theorem write_step (out l : List Int) (i : Nat) (a b c : Int) (tag : List Int) (hi : i < l.length) (hl : l.length = 3) (h : U64 (rd l (i : Int))) (ho : out.length ≤ 1000000) (k : Nat) (hk : 9 ≤ k) :
    frame_Write.l0 (k + 1) out l 3 (i : Int) a b c tag = frame_Write.l0 k (out ++ num1 (rd l (i : Int))) l 3 ((i + 1 : Nat) : Int) a b c tag := by
  have hb := lb_len (rd l (i : Int))
  simp only [frame_Write.l0]
  rw [if_pos (by omega), if_pos (by omega), if_pos (by omega), least_lb _ h k hk]
  simp only [Option.bind_some]
  rw [if_pos (by omega), if_pos (by rw [List.length_append, List.length_singleton]; omega), wrap64_id (by omega) (by omega), Int.emod_eq_of_lt (by omega) (by omega), List.append_assoc]
  rfl
theorem refWrite_step (out l : List Int) (i : Nat) (a b c : Int) (tag : List Int) (hi : i < l.length) (hl : l.length = 3) (h : U64 (rd l (i : Int))) (ho : out.length ≤ 1000000) (k : Nat) (hk : 9 ≤ k) :
    wristbandref12_Write.l0 (k + 1) out l (i : Int) a b c tag = wristbandref12_Write.l0 k (out ++ num1 (rd l (i : Int))) l ((i + 1 : Nat) : Int) a b c tag := by
  have hb := lb_len (rd l (i : Int))
  simp only [wristbandref12_Write.l0]
  rw [if_pos (by omega), if_pos (by omega), if_pos (by omega), refLeast_lb _ h k hk]
  simp only [Option.bind_some]
  rw [if_pos (by omega), if_pos (by rw [List.length_append, List.length_singleton]; omega), wrap64_id (by omega) (by omega), Int.emod_eq_of_lt (by omega) (by omega), List.append_assoc]
  rfl
theorem right_f (a b c : Int) (tag : List Int) : frame_Right.f a b c tag = some ((tag.length : Int) == 8) := rfl
theorem write_f (a b c : Int) (tag : List Int) (ha : U64 a) (hb : U64 b) (hc : U64 c) (ht : tag.length ≤ 1000000) (k : Nat) (hk : 20 ≤ k) :
    frame_Write.f k a b c tag = some (if (tag.length : Int) = 8 then (wr a b c tag, 0) else ([], 1)) := by
  unfold frame_Write.f
  rw [right_f]
  simp only [Option.bind_some]
  by_cases h : (tag.length : Int) = 8
  · rw [if_pos h, if_pos (beq_iff_eq.mpr h)]
    obtain ⟨k, rfl⟩ : ∃ m, k = m + 1 + 1 + 1 + 1 := ⟨k - 4, by omega⟩
    have la := num1_len a
    have lb' := num1_len b
    have lc := num1_len c
    show frame_Write.l0 (k + 1 + 1 + 1 + 1) [87] [a, b, c] 3 ((0 : Nat) : Int) a b c tag = _
    rw [write_step [87] [a, b, c] 0 a b c tag (by simp) rfl ha (by decide) _ (by omega), write_step _ [a, b, c] 1 a b c tag (by simp) rfl hb (by rw [List.length_append]; simp only [List.length_singleton]; have : (rd [a, b, c] ((0 : Nat) : Int)) = a := rfl; rw [this]; omega) _ (by omega),
      write_step _ [a, b, c] 2 a b c tag (by simp) rfl hc (by rw [List.length_append, List.length_append]; simp only [List.length_singleton]; have h0 : (rd [a, b, c] ((0 : Nat) : Int)) = a := rfl; have h1 : (rd [a, b, c] ((1 : Nat) : Int)) = b := rfl; rw [h0, h1]; omega) _ (by omega)]
    have h0 : (rd [a, b, c] ((0 : Nat) : Int)) = a := rfl
    have h1 : (rd [a, b, c] ((1 : Nat) : Int)) = b := rfl
    have h2 : (rd [a, b, c] ((2 : Nat) : Int)) = c := rfl
    rw [h0, h1, h2]
    simp only [frame_Write.l0]
    rw [if_neg (by omega), if_pos (by simp only [List.length_append, List.length_singleton]; omega)]
    simp [wr]
  · rw [if_neg h, if_neg (by simpa using h)]
theorem refWrite_f (a b c : Int) (tag : List Int) (ha : U64 a) (hb : U64 b) (hc : U64 c) (ht : tag.length ≤ 1000000) (k : Nat) (hk : 20 ≤ k) :
    wristbandref12_Write.f k a b c tag = some (wr a b c tag) := by
  unfold wristbandref12_Write.f
  obtain ⟨k, rfl⟩ : ∃ m, k = m + 1 + 1 + 1 + 1 := ⟨k - 4, by omega⟩
  have la := num1_len a
  have lb' := num1_len b
  have lc := num1_len c
  show wristbandref12_Write.l0 (k + 1 + 1 + 1 + 1) [87] [a, b, c] ((0 : Nat) : Int) a b c tag = _
  rw [refWrite_step [87] [a, b, c] 0 a b c tag (by simp) rfl ha (by decide) _ (by omega), refWrite_step _ [a, b, c] 1 a b c tag (by simp) rfl hb (by rw [List.length_append]; simp only [List.length_singleton]; have : (rd [a, b, c] ((0 : Nat) : Int)) = a := rfl; rw [this]; omega) _ (by omega),
    refWrite_step _ [a, b, c] 2 a b c tag (by simp) rfl hc (by rw [List.length_append, List.length_append]; simp only [List.length_singleton]; have h0 : (rd [a, b, c] ((0 : Nat) : Int)) = a := rfl; have h1 : (rd [a, b, c] ((1 : Nat) : Int)) = b := rfl; rw [h0, h1]; omega) _ (by omega)]
  have h0 : (rd [a, b, c] ((0 : Nat) : Int)) = a := rfl
  have h1 : (rd [a, b, c] ((1 : Nat) : Int)) = b := rfl
  have h2 : (rd [a, b, c] ((2 : Nat) : Int)) = c := rfl
  rw [h0, h1, h2]
  simp only [wristbandref12_Write.l0]
  rw [if_neg (by omega), if_pos (by simp only [List.length_append, List.length_singleton]; omega)]
  simp [wr]
/-! reading -/
theorem fromLeast_f (l : List Int) (hb : Bytes l) (hl : l.length ≤ 8) (k : Nat) (hk : l.length < k) : word_FromLeast.f k l = some (if 0 < l.length ∧ rd l 0 = 0 then (0, 3) else (val l, 0)) := by
  unfold word_FromLeast.f
  rw [if_neg (by omega), value_f l hb (by omega) k hk]
  simp only [Option.bind_some]
  by_cases h : 0 < l.length
  · rw [if_pos (by omega), if_pos (by omega)]
    by_cases h2 : rd l 0 = 0
    · rw [if_pos h2, if_pos ⟨h, h2⟩]
    · rw [if_neg h2, if_neg (fun hh => h2 hh.2)]
  · rw [if_neg (by omega), if_neg (fun hh => h hh.1)]
/-- A number that is next: its value, what is left, and an error. -/
def rdn (l : List Int) : Int × List Int × Int :=
  if l.length < 1 then (0, l, 2)
  else if 8 < rd l 0 then (0, l.drop 1, 4)
  else if (l.drop 1).length < (rd l 0).toNat then (0, l.drop 1, 2)
  else if 0 < ((l.drop 1).take (rd l 0).toNat).length ∧ rd ((l.drop 1).take (rd l 0).toNat) 0 = 0 then (0, (l.drop 1).drop (rd l 0).toNat, 3)
  else (val ((l.drop 1).take (rd l 0).toNat), (l.drop 1).drop (rd l 0).toNat, 0)
theorem nm_e (l : List Int) (e : Int) (he : e ≠ 0) (k : Nat) : nm.f k l e = some (0, l, e) := by unfold nm.f; rw [if_neg he]
theorem nm_ok (l : List Int) (hb : Bytes l) (k : Nat) (hk : 9 ≤ k) : nm.f k l 0 = some (rdn l) := by
  unfold nm.f rdn
  rw [if_pos rfl]
  have hr := rd_bytes hb 0
  by_cases h1 : l.length < 1
  · rw [if_pos h1, if_pos h1]
  · rw [if_neg h1, if_neg h1]
    by_cases h2 : 8 < rd l 0
    · rw [if_pos h2, if_pos h2]
    · rw [if_neg h2, if_neg h2, wrap64_id (by omega) (by omega), if_pos hr.1]
      by_cases h3 : (l.drop 1).length < (rd l 0).toNat
      · rw [if_pos h3, if_pos h3, fromLeast_f [] (fun x hx => by cases hx) (by simp) k (by simp; omega)]
        rfl
      · have hl : ((l.drop 1).take (rd l 0).toNat).length ≤ 8 := by rw [List.length_take]; omega
        rw [if_neg h3, if_neg h3, fromLeast_f _ ((hb.drop 1).take _) hl k (by omega)]
        by_cases h4 : 0 < ((l.drop 1).take (rd l 0).toNat).length ∧ rd ((l.drop 1).take (rd l 0).toNat) 0 = 0
        · rw [if_pos h4, if_pos h4]; rfl
        · rw [if_neg h4, if_neg h4]; rfl
def Er (e : Int) : Int × Int × Int × List Int × Int := (0, 0, 0, [], e)
/-- What is left of a payload's numbers, and its tag. -/
def RR : Nat → List Int → List Int → Int × Int × Int × List Int × Int
  | 0, l, acc => if l.length < 8 then Er 2 else if 8 < l.length then Er 4 else (rd acc 0, rd acc 1, rd acc 2, l, 0)
  | j + 1, l, acc => if (rdn l).2.2 = 0 then RR j (rdn l).2.1 (acc ++ [(rdn l).1]) else Er (rdn l).2.2
def rdP (b : List Int) : Int × Int × Int × List Int × Int := if b.length < 1 then Er 2 else if rd b 0 = 87 then RR 3 (b.drop 1) [] else Er 3
theorem rdn_bytes (l : List Int) (hb : Bytes l) : Bytes (rdn l).2.1 := by
  unfold rdn
  split
  · exact hb
  · split
    · exact hb.drop 1
    · split
      · exact hb.drop 1
      · split
        · exact (hb.drop 1).drop _
        · exact (hb.drop 1).drop _
theorem read_f (b : List Int) (hb : Bytes b) (k : Nat) (hk : 9 ≤ k) : frame_Read.f k b = some (rdP b) := by
  unfold frame_Read.f rdP
  have hne : ∀ (l : List Int) (e : Int), e ≠ 0 → ((nm.f k l e).bind fun q1 => (nm.f k q1.2.1 q1.2.2).bind fun q2 => (nm.f k q2.2.1 q2.2.2).bind fun q3 =>
      if q3.2.2 = 0 then (if q3.2.1.length < 8 then some (0, 0, 0, [], 2) else if 0 < (q3.2.1.drop 8).length then some (0, 0, 0, [], 4) else some (q1.1, q2.1, q3.1, q3.2.1.take 8, 0)) else some (0, 0, 0, [], q3.2.2)) = some (Er e) := by
    intro l e he
    rw [nm_e l e he]; simp only [Option.bind_some]
    rw [nm_e l e he]; simp only [Option.bind_some]
    rw [nm_e l e he]; simp only [Option.bind_some]
    rw [if_neg he]; rfl
  by_cases h1 : b.length < 1
  · rw [if_pos h1, if_pos h1, if_pos h1]; exact hne b 2 (by decide)
  · rw [if_neg h1, if_neg h1, if_neg h1]
    by_cases h2 : rd b 0 = 87
    · rw [if_pos h2, if_pos h2]
      have hb1 := hb.drop 1
      generalize b.drop 1 = l at hb1
      rw [nm_ok l hb1 k hk]; simp only [Option.bind_some, RR]
      have hb2 := rdn_bytes l hb1
      generalize rdn l = q1 at hb2
      obtain ⟨v1, l2, e1⟩ := q1
      dsimp only at hb2 ⊢
      by_cases he1 : e1 = 0
      · subst he1
        rw [if_pos rfl, nm_ok l2 hb2 k hk]; simp only [Option.bind_some]
        have hb3 := rdn_bytes l2 hb2
        generalize rdn l2 = q2 at hb3
        obtain ⟨v2, l3, e2⟩ := q2
        dsimp only at hb3 ⊢
        by_cases he2 : e2 = 0
        · subst he2
          rw [if_pos rfl, nm_ok l3 hb3 k hk]; simp only [Option.bind_some]
          generalize rdn l3 = q3
          obtain ⟨v3, l4, e3⟩ := q3
          dsimp only
          by_cases he3 : e3 = 0
          · subst he3
            rw [if_pos rfl, if_pos rfl]
            by_cases h8 : l4.length < 8
            · rw [if_pos h8, if_pos h8]; rfl
            · rw [if_neg h8, if_neg h8, List.length_drop]
              by_cases h9 : 8 < l4.length
              · rw [if_pos (by omega), if_pos h9]; rfl
              · rw [if_neg (by omega), if_neg h9, List.take_of_length_le (by omega)]; rfl
          · rw [if_neg he3, if_neg he3]; rfl
        · rw [if_neg he2, nm_e l3 e2 he2]; simp only [Option.bind_some]
          rw [if_neg he2]; rfl
      · rw [if_neg he1, nm_e l2 e1 he1]; simp only [Option.bind_some]
        rw [nm_e l2 e1 he1]; simp only [Option.bind_some]
        rw [if_neg he1]; rfl
    · rw [if_neg h2, if_neg h2]; exact hne (b.drop 1) 3 (by decide)
theorem rd_drop (l : List Int) (i : Nat) (h : i < l.length) : rd (l.drop i) 0 = rd l (i : Int) := by
  have := rd_at (l := l.drop i) 0 (by rw [List.length_drop]; omega)
  rw [show ((0 : Nat) : Int) = 0 from rfl] at this
  rw [this, rd_at i h, List.getElem_drop]; simp
theorem rd_take (l : List Int) (n : Nat) (h : 0 < n) (hl : 0 < l.length) : rd (l.take n) 0 = rd l 0 := by
  have h1 := rd_at (l := l.take n) 0 (by rw [List.length_take]; omega)
  have h2 := rd_at (l := l) 0 hl
  rw [show ((0 : Nat) : Int) = 0 from rfl] at h1 h2
  rw [h1, h2, List.getElem_take]
theorem cut_mid_eq (x0 : List Int) (at_ n : Nat) : ((x0.take (at_ + 1 + n)).drop (at_ + 1)) = (((x0.drop at_).drop 1).take n) := by
  rw [List.drop_drop, List.drop_take, show at_ + 1 + n - (at_ + 1) = n by omega]
theorem wrap_at (a n : Nat) (h : a + n ≤ 2000000) : wrap64 ((a : Int) + 1 + (n : Int)) = ((a + 1 + n : Nat) : Int) := by unfold wrap64; omega
theorem wrap_i (i : Nat) (h : i ≤ 5) : wrap64 ((i : Int) + 1) = ((i + 1 : Nat) : Int) := by unfold wrap64; omega
theorem refRead_l0 (x0 : List Int) (hb : Bytes x0) (hl : x0.length ≤ 1000000) : ∀ (j k at_ : Nat) (acc : List Int) (i : Nat), i + j = 3 → acc.length = i → at_ ≤ x0.length → 30 + j ≤ k →
    wristbandref12_Read.l0 k x0 (at_ : Int) acc (i : Int) = some (RR j (x0.drop at_) acc) := by
  intro j
  induction j with
  | zero =>
    intro k at_ acc i hi ha hat hk
    obtain ⟨k, rfl⟩ : ∃ m, k = m + 1 := ⟨k - 1, by omega⟩
    simp only [wristbandref12_Read.l0, RR]
    have hdl : (x0.drop at_).length = x0.length - at_ := List.length_drop
    rw [if_neg (by omega), wrap64_id (by omega) (by omega)]
    by_cases h8 : (x0.drop at_).length < 8
    · rw [if_pos (by omega), if_pos h8]; rfl
    · rw [if_neg (by omega), if_neg h8]
      by_cases h9 : 8 < (x0.drop at_).length
      · rw [if_pos (by omega), if_pos h9]; rfl
      · rw [if_neg (by omega), if_neg h9, if_pos (by omega), if_pos (by omega), if_pos (by omega)]
        simp only [Option.bind_some, List.length_nil, List.nil_append, Int.toNat_natCast]
        rw [if_pos (by omega), if_pos (by omega), if_pos (by omega)]
  | succ j ih =>
    intro k at_ acc i hi ha hat hk
    obtain ⟨k, rfl⟩ : ∃ m, k = m + 1 := ⟨k - 1, by omega⟩
    simp only [wristbandref12_Read.l0, RR]
    rw [if_pos (by omega)]
    have hdl : (x0.drop at_).length = x0.length - at_ := List.length_drop
    have hd2 : ((x0.drop at_).drop 1).length = x0.length - at_ - 1 := by rw [List.length_drop, hdl]
    by_cases h1 : x0.length ≤ at_
    · have hE : rdn (x0.drop at_) = (0, x0.drop at_, 2) := by unfold rdn; rw [if_pos (by omega)]
      rw [if_pos (by omega), hE, if_neg (show ¬ (2 : Int) = 0 by decide)]; rfl
    · have hr := rd_bytes hb (at_ : Int)
      have hrd := rd_drop x0 at_ (by omega)
      rw [if_neg (by omega), if_pos (by omega), if_pos (by omega), wrap64_id (n := rd x0 (at_ : Int)) (by omega) (by omega)]
      by_cases h2 : 8 < rd x0 (at_ : Int)
      · have hE : rdn (x0.drop at_) = (0, (x0.drop at_).drop 1, 4) := by unfold rdn; rw [if_neg (by omega), hrd, if_pos h2]
        rw [if_pos (by omega), hE, if_neg (show ¬ (4 : Int) = 0 by decide)]; rfl
      · rw [if_neg (by omega), wrap64_id (n := (at_ : Int) + 1) (by omega) (by omega), wrap64_id (n := (x0.length : Int) - ((at_ : Int) + 1)) (by omega) (by omega)]
        obtain ⟨n, hn⟩ : ∃ n : Nat, rd x0 (at_ : Int) = (n : Int) := ⟨(rd x0 (at_ : Int)).toNat, by omega⟩
        rw [hn] at h2 hrd ⊢
        have hE0 : rdn (x0.drop at_) = if ((x0.drop at_).drop 1).length < n then (0, (x0.drop at_).drop 1, 2)
            else if 0 < (((x0.drop at_).drop 1).take n).length ∧ rd (((x0.drop at_).drop 1).take n) 0 = 0 then (0, ((x0.drop at_).drop 1).drop n, 3)
            else (val (((x0.drop at_).drop 1).take n), ((x0.drop at_).drop 1).drop n, 0) := by
          unfold rdn; rw [if_neg (by omega), hrd, if_neg h2, Int.toNat_natCast]
        by_cases h3 : ((x0.drop at_).drop 1).length < n
        · rw [if_pos (by omega), hE0, if_pos h3, if_neg (show ¬ (2 : Int) = 0 by decide)]; rfl
        · rw [if_neg h3] at hE0
          rw [if_neg (by omega)]
          have hw0 : at_ + n ≤ 2000000 := by omega
          have ht1 : ((at_ : Int) + 1).toNat = at_ + 1 := by omega
          have hlt : (((x0.drop at_).drop 1).take n).length = n := by rw [List.length_take]; omega
          have hdd : ((x0.drop at_).drop 1).drop n = x0.drop (at_ + 1 + n) := by rw [List.drop_drop, List.drop_drop, Nat.add_assoc]
          have hbt : Bytes (((x0.drop at_).drop 1).take n) := ((hb.drop _).drop _).take _
          have hval := refValue_f (((x0.drop at_).drop 1).take n) hbt (by omega) k (by omega)
          have hstep := ih k (at_ + 1 + n) (acc ++ [val (((x0.drop at_).drop 1).take n)]) (i + 1) (by omega) (by rw [List.length_append, List.length_singleton]; omega) (by omega) (by omega)
          by_cases h4 : 0 < n
          · have hrt : rd (((x0.drop at_).drop 1).take n) 0 = rd x0 ((at_ : Int) + 1) := by
              rw [rd_take _ n h4 (by omega), List.drop_drop, rd_drop x0 (at_ + 1) (by omega)]; rfl
            rw [if_pos (by omega), if_pos (by omega), if_pos (by omega)]
            rw [hlt, hrt] at hE0
            by_cases h5 : rd x0 ((at_ : Int) + 1) = 0
            · rw [if_pos ⟨h4, h5⟩] at hE0
              rw [if_pos h5, hE0, if_neg (show ¬ (3 : Int) = 0 by decide)]; rfl
            · rw [if_neg (fun hh => h5 hh.2)] at hE0
              clear ih
              rw [if_neg h5, hE0, if_pos (show (0 : Int) = 0 from rfl), wrap_at at_ n hw0, if_pos (by omega), if_pos (by omega), Int.toNat_natCast, ht1, cut_mid_eq, hval]
              simp only [Option.bind_some]
              rw [if_pos (by omega), wrap_i i (by omega), hdd]
              exact hstep
          · rw [hlt, if_neg (fun hh => h4 hh.1)] at hE0
            rw [if_neg (by omega), hE0, if_pos (show (0 : Int) = 0 from rfl), wrap_at at_ n hw0, if_pos (by omega), if_pos (by omega), if_pos (by omega), Int.toNat_natCast, ht1, cut_mid_eq, hval]
            simp only [Option.bind_some]
            rw [if_pos (by omega), wrap_i i (by omega), hdd]
            exact hstep
theorem refRead_f (b : List Int) (hb : Bytes b) (hl : b.length ≤ 1000000) (k : Nat) (hk : 40 ≤ k) : wristbandref12_Read.f k b = some (rdP b) := by
  unfold wristbandref12_Read.f rdP
  by_cases h1 : b.length < 1
  · rw [if_pos (by omega), if_pos h1]; rfl
  · rw [if_neg (by omega), if_neg h1, if_pos (by omega)]
    by_cases h2 : rd b 0 = 87
    · rw [if_pos h2, if_pos h2]
      exact refRead_l0 b hb hl 3 k 1 [] 0 rfl rfl (by omega) (by omega)
    · rw [if_neg h2, if_neg h2]; rfl
theorem same_refl (a b c : Int) (l : List Int) : wristbandref12_Same.f a b c l a b c l = some true := by
  unfold wristbandref12_Same.f
  rw [if_pos rfl, if_pos rfl, if_pos rfl]
  simp
def mg (a b c : Int) : List Int := 67 :: (p8 a ++ (p8 b ++ p8 c))
theorem msg_f (a b c : Int) (ha : U64 a) (hb : U64 b) (hc : U64 c) (k : Nat) (hk : 20 ≤ k) : frame_Msg.f k a b c = some (mg a b c) := by
  unfold frame_Msg.f
  rw [put_f a ha k (by omega), put_f b hb k (by omega), put_f c hc k (by omega)]
  simp only [Option.bind_some]
  unfold slices_Concat_byte_byte.f
  rw [if_pos ⟨by simp, by simp [p8]⟩]
  simp [mg]
theorem refMsg_f (a b c : Int) (ha : U64 a) (hb : U64 b) (hc : U64 c) (k : Nat) (hk : 20 ≤ k) : wristbandref12_Msg.f k a b c = some (mg a b c) := by
  unfold wristbandref12_Msg.f
  rw [refPut_f a ha k (by omega), refPut_f b hb k (by omega), refPut_f c hc k (by omega)]
  simp only [Option.bind_some]
  rw [if_pos (by simp [p8]), if_pos (by simp [p8]), if_pos (by simp [p8])]
  simp [mg]
theorem awake12 : wristbandlaw12_awake.f 200 = some true := by
  unfold wristbandlaw12_awake.f
  simp only [toList_data]
  decide +kernel
theorem awake12_at (k : Nat) (hk : 200 ≤ k) : wristbandlaw12_awake.f k = some true := at_rounds wristbandlaw12_awake.mono hk awake12
/-! the law -/
theorem FrameRight_j1 (k : Nat) (a b c : Int) (tag l : List Int) (ha : U64 a) (hb : U64 b) (hc : U64 c) (hl : Bytes l) (hll : l.length ≤ 1000000) (hk : 60 ≤ k) : wristbandlaw12_FrameRight.j1 (k + 1) l a b c tag = some true := by
  simp only [wristbandlaw12_FrameRight.j1]
  rw [read_f l hl k (by omega), refRead_f l hl hll k (by omega), right_f, msg_f a b c ha hb hc k (by omega), refMsg_f a b c ha hb hc k (by omega)]
  simp only [Option.bind_some]
  rw [same_refl]
  simp
theorem FrameRight_j0 (k : Nat) (a b c : Int) (tag l : List Int) (ha : U64 a) (hb : U64 b) (hc : U64 c) (ht : tag.length ≤ 1000000) (hl : Bytes l) (hll : l.length ≤ 1000000) (hk : 60 ≤ k) : wristbandlaw12_FrameRight.j0 (k + 1 + 1) l false a b c tag = some true := by
  simp only [wristbandlaw12_FrameRight.j0]
  rw [if_neg (by decide), write_f a b c tag ha hb hc ht _ (by omega), refWrite_f a b c tag ha hb hc ht _ (by omega), FrameRight_j1 k a b c tag l ha hb hc hl hll hk]
  simp only [Option.bind_some]
  by_cases h : (tag.length : Int) = 8
  · simp only [if_pos h, if_true]
  · simp only [if_neg h, if_true, List.length_nil]; rfl
theorem u64_of {x : Int} (h : (Lit.int .u64 x).wf = true) : U64 x := by have := bounds_u64 h; unfold U64; omega
theorem FrameRight : wristbandlaw12_FrameRight.Pure := by
  intro a b c tag l h0 h1 h2 _ _ _ _ hb
  refine ⟨300 + 1 + 1, ?_⟩
  unfold wristbandlaw12_FrameRight.f
  rw [awake12_at _ (by omega)]
  simp only [Option.bind_some, if_true]
  by_cases c1 : (tag.length : Int) > 3000
  · rw [if_pos c1]; simp only [wristbandlaw12_FrameRight.j0]; rw [if_pos trivial]
  · rw [if_neg c1]
    by_cases c2 : (l.length : Int) > 3000
    · rw [decide_eq_true c2]; simp only [wristbandlaw12_FrameRight.j0]; rw [if_pos trivial]
    · rw [decide_eq_false c2]
      exact FrameRight_j0 300 a b c tag l (u64_of h0) (u64_of h1) (u64_of h2) (by omega) (bytes_of hb) (by omega) (by omega)

end Go.Proofs.Ytnpkhkhlofkbhaa.Pure
