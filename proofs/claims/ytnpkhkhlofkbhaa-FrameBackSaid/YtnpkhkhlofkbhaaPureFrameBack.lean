/- A payload that is right is read from its bytes as it was, and unlike ones have unlike bytes. -/
import Derived.Test.YtnpkhkhlofkbhaaPFrameBackx3
import Derived.Test.YtnpkhkhlofkbhaaPFrameBackx5
import Derived.OpenShut
set_option linter.unusedVariables false
set_option linter.unusedSimpArgs false
namespace Go.Proofs.Ytnpkhkhlofkbhaa.Pure
open Go.RowKit Go.Proofs.Ytnpkhkhlofkbhaa.PFrameBack Go.Proofs.YtnpkhkhlofkbhaaW.PrintWords Go.Proofs.YtnpkhkhlofkbhaaW.PrintLast Go.Proofs.YtnpkhkhlofkbhaaW.PrintMore

theorem wrap64_id {n : Int} (h0 : -9223372036854775808 ≤ n) (h1 : n ≤ 9223372036854775807) : wrap64 n = n := by unfold wrap64; omega
theorem ex_succ {k n : Nat} (h : n < k) : ∃ m, k = m + 1 := ⟨k - 1, by omega⟩
def Bytes (l : List Int) : Prop := ∀ x ∈ l, 0 ≤ x ∧ x ≤ 255
theorem bytes_of {l : List Int} (h : ∀ x ∈ l, (Lit.int .u8 x).wf = true) : Bytes l := fun x hx => bounds_u8 (h x hx)
theorem rd_at {l : List Int} (i : Nat) (h : i < l.length) : rd l (i : Int) = l[i] := by
  unfold rd
  simp [List.getD_eq_getElem?_getD, List.getElem?_eq_getElem h]
theorem rd_bytes {l : List Int} (h : Bytes l) (i : Int) : 0 ≤ rd l i ∧ rd l i ≤ 255 := by
  unfold rd
  rw [List.getD_eq_getElem?_getD]
  rcases Nat.lt_or_ge i.toNat l.length with hl | hl
  · rw [List.getElem?_eq_getElem hl]; exact h _ (List.getElem_mem hl)
  · rw [List.getElem?_eq_none hl]; simp
theorem Bytes.take {l : List Int} (h : Bytes l) (n : Nat) : Bytes (l.take n) := fun x hx => h x (List.mem_of_mem_take hx)
theorem Bytes.drop {l : List Int} (h : Bytes l) (n : Nat) : Bytes (l.drop n) := fun x hx => h x (List.mem_of_mem_drop hx)
theorem Bytes.cons {a : Int} {l : List Int} (h : Bytes (a :: l)) : (0 ≤ a ∧ a ≤ 255) ∧ Bytes l := ⟨h a (by simp), fun x hx => h x (by simp [hx])⟩
theorem u64w (n : Int) : IntKind.u64.wrap n = n % 18446744073709551616 := by simp [IntKind.wrap, IntKind.bits, IntKind.signed]
theorem wraps_u64 (n : Int) (h₀ : 0 ≤ n) (h₁ : n < 2 ^ 64) : IntKind.u64.wrap n = n := by rw [u64w]; omega
theorem wraps_u32 (n : Int) (h₀ : 0 ≤ n) (h₁ : n < 2 ^ 32) : IntKind.u32.wrap n = n := by rw [IntKind.wrap_u32]; omega
theorem tmod_nn {a b : Int} (h : 0 ≤ a) : Int.tmod a b = a % b := Int.tmod_eq_emod_of_nonneg h
theorem tdiv_nn {a b : Int} (h : 0 ≤ a) : Int.tdiv a b = a / b := Int.tdiv_eq_ediv_of_nonneg h
def vs (v x : Int) : Int := (v * 256) % 18446744073709551616 + x
def val (l : List Int) : Int := l.foldl vs 0
theorem or_step (v x : Int) (h0 : 0 ≤ x) (h1 : x ≤ 255) : Go.bits .or .u64 (IntKind.u64.wrap (v * 256)) (IntKind.u64.wrap x) = vs v x := by
  rw [u64w, u64w, show x % 18446744073709551616 = x by omega]
  exact bits_join .u64 64 (by decide) wraps_u64 8 _ x (by omega) (by omega) (by omega) h0 (by omega) (by omega)
theorem add_step (v x : Int) (h0 : 0 ≤ x) (h1 : x ≤ 255) : IntKind.u64.wrap (IntKind.u64.wrap (256 * v) + IntKind.u64.wrap x) = vs v x := by
  rw [u64w, u64w, u64w]; unfold vs; omega
theorem vs_range (v x : Int) (h0 : 0 ≤ x) (h1 : x ≤ 255) : 0 ≤ vs v x ∧ vs v x < 18446744073709551616 := by unfold vs; omega
theorem foldl_range : ∀ (l : List Int) (v : Int), Bytes l → 0 ≤ v → v < 18446744073709551616 → 0 ≤ l.foldl vs v ∧ l.foldl vs v < 18446744073709551616
  | [], v, _, h0, h1 => ⟨h0, h1⟩
  | a :: l, v, hb, _, _ => by
    have h := vs_range v a hb.cons.1.1 hb.cons.1.2
    exact foldl_range l _ hb.cons.2 h.1 h.2
theorem val_range {l : List Int} (hb : Bytes l) : 0 ≤ val l ∧ val l < 18446744073709551616 := foldl_range l 0 hb (by omega) (by omega)
theorem value_l0 (l : List Int) (hb : Bytes l) (hl : l.length ≤ 9223372036854775806) : ∀ (d k : Nat) (v : Int) (i : Nat), i + d = l.length → d < k → word_value.l0 k v l (l.length : Int) (i : Int) = some ((l.drop i).foldl vs v) := by
  intro d
  induction d with
  | zero =>
    intro k v i hi hk
    obtain ⟨k, rfl⟩ := ex_succ hk
    simp only [word_value.l0]
    rw [if_neg (by omega), List.drop_eq_nil_of_le (by omega)]; rfl
  | succ d ih =>
    intro k v i hi hk
    obtain ⟨k, rfl⟩ := ex_succ hk
    have hlt : i < l.length := by omega
    simp only [word_value.l0]
    rw [if_pos (by omega), if_pos (by omega), if_pos (by omega), or_step _ _ (rd_bytes hb _).1 (rd_bytes hb _).2, wrap64_id (by omega) (by omega), show ((i : Int) + 1) = ((i + 1 : Nat) : Int) by omega, ih k _ (i + 1) (by omega) (by omega), rd_at i hlt, List.drop_eq_getElem_cons hlt]
    rfl
theorem value_f (l : List Int) (hb : Bytes l) (hl : l.length ≤ 9223372036854775806) (k : Nat) (hk : l.length < k) : word_value.f k l = some (val l) := by
  unfold word_value.f
  rw [show (0 : Int) = ((0 : Nat) : Int) from rfl, value_l0 l hb hl l.length k _ 0 (by omega) hk]; rfl
/-! strings of bytes -/
theorem toList_loop (b : ByteArray) : ∀ (d i : Nat) (r : List UInt8), i + d = b.size → ByteArray.toList.loop b i r = r.reverse ++ b.data.toList.drop i := by
  intro d
  induction d with
  | zero =>
    intro i r h
    rw [ByteArray.toList.loop, if_neg (by omega), List.drop_eq_nil_of_le (by rw [Array.length_toList]; show b.size ≤ i; omega), List.append_nil]
  | succ d ih =>
    intro i r h
    have hlt : i < b.size := by omega
    have hl : i < b.data.toList.length := by rw [Array.length_toList]; exact hlt
    have hg : b.get! i = b.data.toList[i] := by
      show b.data[i]! = _
      rw [getElem!_pos b.data i hlt, Array.getElem_toList]
    rw [ByteArray.toList.loop, if_pos hlt, ih (i + 1) _ (by omega), List.drop_eq_getElem_cons hl, hg]
    simp
theorem toList_data (b : ByteArray) : b.toList = b.data.toList := by
  unfold ByteArray.toList
  rw [toList_loop b b.size 0 [] (by omega)]
  simp
theorem str_toList (xs : List Int) : (strOfNums xs).toList = xs.map fun n => UInt8.ofNat n.toNat := by
  rw [toList_data]; simp [strOfNums]
theorem ofNat_inj (a b : Int) (ha : 0 ≤ a ∧ a ≤ 255) (hb : 0 ≤ b ∧ b ≤ 255) (h : UInt8.ofNat a.toNat = UInt8.ofNat b.toNat) : a = b := by
  have h2 := congrArg UInt8.toNat h
  simp only [UInt8.toNat_ofNat'] at h2
  omega
theorem map_inj : ∀ (xs ys : List Int), Bytes xs → Bytes ys → (xs.map fun n => UInt8.ofNat n.toNat) = (ys.map fun n => UInt8.ofNat n.toNat) → xs = ys
  | [], [], _, _, _ => rfl
  | [], _ :: _, _, _, h => by simp at h
  | _ :: _, [], _, _, h => by simp at h
  | x :: xs, y :: ys, hx, hy, h => by
    simp only [List.map_cons, List.cons.injEq] at h
    rw [ofNat_inj x y hx.cons.1 hy.cons.1 h.1, map_inj xs ys hx.cons.2 hy.cons.2 h.2]
theorem str_inj (xs ys : List Int) (hx : Bytes xs) (hy : Bytes ys) : (strOfNums xs).toList = (strOfNums ys).toList ↔ xs = ys := by
  rw [str_toList, str_toList]
  exact ⟨map_inj xs ys hx hy, fun h => by rw [h]⟩
theorem str_beq (xs ys : List Int) (hx : Bytes xs) (hy : Bytes ys) : ((strOfNums xs).toList == (strOfNums ys).toList) = decide (xs = ys) := by
  by_cases h : xs = ys
  · subst h; simp
  · rw [decide_eq_false h, beq_eq_false_iff_ne]
    exact fun h2 => h ((str_inj xs ys hx hy).1 h2)
theorem str_size (xs : List Int) : (strOfNums xs).size = xs.length := by
  show (strOfNums xs).data.size = _
  simp [strOfNums]
theorem str_append (xs ys : List Int) : strOfNums (xs ++ ys) = strOfNums xs ++ strOfNums ys := by
  apply ByteArray.ext
  simp [strOfNums]
theorem str_bt (xs : List Int) (hx : Bytes xs) (i : Nat) (h : i < xs.length) : bt (strOfNums xs) (i : Int) = xs[i] := by
  have hs : i < (strOfNums xs).size := by rw [str_size]; exact h
  have hr := hx xs[i] (List.getElem_mem h)
  unfold bt
  simp only [Int.toNat_natCast]
  rw [dif_pos hs, ByteArray.getElem_eq_getElem_data]
  simp only [strOfNums, List.getElem_toArray, List.getElem_map, UInt8.toNat_ofNat']
  omega
theorem str_extract (xs : List Int) (i : Nat) : (strOfNums xs).extract i (strOfNums xs).size = strOfNums (xs.drop i) := by
  apply ByteArray.ext
  rw [ByteArray.data_extract]
  show ((strOfNums xs).data.extract i (strOfNums xs).data.size) = _
  simp [strOfNums, List.map_drop]
  exact List.take_of_length_le (by simp)
def word4b (x : Int) : List Int := [(x / 16777216) % 256, (x / 65536) % 256, (x / 256) % 256, x % 256]
def bytesOf : List Int → List Int
  | [] => []
  | a :: t => word4b a ++ bytesOf t
theorem word4b_bytes (x : Int) : Bytes (word4b x) := by
  intro y hy
  simp only [word4b, List.mem_cons, List.not_mem_nil, or_false] at hy
  omega
theorem bytesOf_bytes : ∀ l : List Int, Bytes (bytesOf l)
  | [] => fun _ h => by simp [bytesOf] at h
  | a :: t => fun x h => by
    simp only [bytesOf, List.mem_append] at h
    rcases h with h | h
    · exact word4b_bytes a x h
    · exact bytesOf_bytes t x h
def Words (l : List Int) : Prop := ∀ x ∈ l, 0 ≤ x ∧ x < 4294967296
theorem rd_words {l : List Int} (h : Words l) (i : Nat) (hi : i < l.length) : 0 ≤ rd l (i : Int) ∧ rd l (i : Int) < 4294967296 := by
  rw [rd_at i hi]; exact h _ (List.getElem_mem hi)
theorem drop_rd (l : List Int) (i : Nat) (h : i < l.length) : l.drop i = rd l (i : Int) :: l.drop (i + 1) := by
  rw [rd_at i h, List.drop_eq_getElem_cons h]
theorem bytes_l0 (l : List Int) (hl : l.length ≤ 35184372087808) : ∀ (d k : Nat) (out : List Int) (i : Nat), i + d = l.length → d < k → out.length + 4 * d < 140737488355328 → word_Bytes.l0 k out l (l.length : Int) (i : Int) = some (out ++ bytesOf (l.drop i)) := by
  intro d
  induction d with
  | zero =>
    intro k out i hi hk ho
    obtain ⟨k, rfl⟩ := ex_succ hk
    simp only [word_Bytes.l0]
    rw [if_neg (by omega), List.drop_eq_nil_of_le (by omega)]; simp [bytesOf]
  | succ d ih =>
    intro k out i hi hk ho
    obtain ⟨k, rfl⟩ := ex_succ hk
    have hw1 : wrap64 ((i : Int) + 1) = ((i + 1 : Nat) : Int) := by rw [wrap64_id (by omega) (by omega)]; omega
    simp only [word_Bytes.l0, hw1, Option.bind_some]
    clear hw1
    rw [if_pos (by omega), if_pos (by omega), if_pos (by omega), if_pos (by simp only [List.length_cons, List.length_nil]; omega), ih k _ (i + 1) (by omega) (by omega) (by simp only [List.length_append, List.length_cons, List.length_nil]; omega), drop_rd l i (by omega)]
    simp [bytesOf, word4b]
theorem bytes_f (l : List Int) (hl : l.length ≤ 35184372087808) (k : Nat) (hk : l.length < k) : word_Bytes.f k l = some (bytesOf l) := by
  unfold word_Bytes.f
  rw [show (0 : Int) = ((0 : Nat) : Int) from rfl, bytes_l0 l hl l.length k [] 0 (by omega) hk (by simp only [List.length_nil]; omega)]; simp
def p8 (x : Int) : List Int := [x / 72057594037927936 % 256, x / 281474976710656 % 256, x / 1099511627776 % 256, x / 4294967296 % 256, x / 16777216 % 256, x / 65536 % 256, x / 256 % 256, x % 256]
def U64 (x : Int) : Prop := 0 ≤ x ∧ x < 18446744073709551616
theorem p8_bytes (x : Int) : Bytes (p8 x) := by
  intro y hy
  simp only [p8, List.mem_cons, List.not_mem_nil, or_false] at hy
  omega
theorem put_f (x : Int) (h : U64 x) (k : Nat) (hk : 2 < k) : word_Put.f k x = some (p8 x) := by
  unfold U64 at h
  unfold word_Put.f
  rw [bytes_f _ (by simp) k (by simpa using hk)]
  simp only [Option.bind_some, bytesOf, word4b, List.cons_append, List.nil_append, List.append_nil, p8]
  rw [show x / 4294967296 % 4294967296 / 16777216 % 256 = x / 72057594037927936 % 256 by omega, show x / 4294967296 % 4294967296 / 65536 % 256 = x / 281474976710656 % 256 by omega, show x / 4294967296 % 4294967296 / 256 % 256 = x / 1099511627776 % 256 by omega, show x / 4294967296 % 4294967296 % 256 = x / 4294967296 % 256 by omega, show x % 4294967296 / 16777216 % 256 = x / 16777216 % 256 by omega, show x % 4294967296 / 65536 % 256 = x / 65536 % 256 by omega, show x % 4294967296 / 256 % 256 = x / 256 % 256 by omega, show x % 4294967296 % 256 = x % 256 by omega]
theorem lt_bitLen : ∀ (k x : Nat), x < 2 ^ 64 → 2 ^ k ≤ x → k < Lib.bitLen x
  | 0, x, h, h1 => by
    rw [Lib.bitLen_half x (by simp at h1; omega) h]; omega
  | k + 1, x, h, h1 => by
    have h2 : 2 ^ (k + 1) = 2 * 2 ^ k := by rw [Nat.pow_succ]; omega
    have h3 : 0 < 2 ^ k := Nat.two_pow_pos k
    have := lt_bitLen k (x / 2) (by omega) (by omega)
    rw [Lib.bitLen_half x (by omega) h]; omega
theorem m_cases (x : Int) (h : U64 x) : ∃ m : Nat, m ≤ 8 ∧ x < 256 ^ m ∧ (m = 0 ∨ 256 ^ (m - 1) ≤ x) := by
  unfold U64 at h
  rcases (show x < 1 ∨ (1 ≤ x ∧ x < 256) ∨ (256 ≤ x ∧ x < 65536) ∨ (65536 ≤ x ∧ x < 16777216) ∨ (16777216 ≤ x ∧ x < 4294967296) ∨ (4294967296 ≤ x ∧ x < 1099511627776) ∨ (1099511627776 ≤ x ∧ x < 281474976710656) ∨ (281474976710656 ≤ x ∧ x < 72057594037927936) ∨ (72057594037927936 ≤ x ∧ x < 18446744073709551616) by omega) with c | c | c | c | c | c | c | c | c
  · exact ⟨0, by omega, by simp only [Int.reducePow]; omega, Or.inl rfl⟩
  · exact ⟨1, by omega, by simp only [Int.reducePow]; omega, Or.inr (by simp only [Nat.reduceSub, Int.reducePow]; omega)⟩
  · exact ⟨2, by omega, by simp only [Int.reducePow]; omega, Or.inr (by simp only [Nat.reduceSub, Int.reducePow]; omega)⟩
  · exact ⟨3, by omega, by simp only [Int.reducePow]; omega, Or.inr (by simp only [Nat.reduceSub, Int.reducePow]; omega)⟩
  · exact ⟨4, by omega, by simp only [Int.reducePow]; omega, Or.inr (by simp only [Nat.reduceSub, Int.reducePow]; omega)⟩
  · exact ⟨5, by omega, by simp only [Int.reducePow]; omega, Or.inr (by simp only [Nat.reduceSub, Int.reducePow]; omega)⟩
  · exact ⟨6, by omega, by simp only [Int.reducePow]; omega, Or.inr (by simp only [Nat.reduceSub, Int.reducePow]; omega)⟩
  · exact ⟨7, by omega, by simp only [Int.reducePow]; omega, Or.inr (by simp only [Nat.reduceSub, Int.reducePow]; omega)⟩
  · exact ⟨8, by omega, by simp only [Int.reducePow]; omega, Or.inr (by simp only [Nat.reduceSub, Int.reducePow]; omega)⟩
theorem bitLen_m (x : Int) (h : U64 x) (m : Nat) (hm : m ≤ 8) (h1 : x < 256 ^ m) (h2 : m = 0 ∨ 256 ^ (m - 1) ≤ x) : (Lib.bitLen x.toNat + 7) / 8 = m := by
  unfold U64 at h
  have hup : Lib.bitLen x.toNat ≤ 8 * m := by
    refine Lib.bitLen_le _ _ (by omega) ?_
    rcases (show m = 0 ∨ m = 1 ∨ m = 2 ∨ m = 3 ∨ m = 4 ∨ m = 5 ∨ m = 6 ∨ m = 7 ∨ m = 8 by omega) with rfl | rfl | rfl | rfl | rfl | rfl | rfl | rfl | rfl <;> (simp only [Int.reducePow, Nat.reduceMul, Nat.reducePow] at h1 ⊢; omega)
  rcases h2 with rfl | h2
  · omega
  · have hlo : 8 * (m - 1) < Lib.bitLen x.toNat ∨ m = 0 := by
      rcases (show m = 0 ∨ m = 1 ∨ m = 2 ∨ m = 3 ∨ m = 4 ∨ m = 5 ∨ m = 6 ∨ m = 7 ∨ m = 8 by omega) with rfl | rfl | rfl | rfl | rfl | rfl | rfl | rfl | rfl
      · exact Or.inr rfl
      all_goals exact Or.inl (lt_bitLen _ _ (by omega) (by simp only [Int.reducePow, Nat.reduceSub, Nat.reduceMul, Nat.reducePow] at h2 ⊢; omega))
    omega
theorem drop_m (x : Int) (h : U64 x) (m : Nat) (hm : m ≤ 8) (h1 : x < 256 ^ m) (h2 : m = 0 ∨ 256 ^ (m - 1) ≤ x) : (p8 x).dropWhile (fun y => decide (y = 0)) = (p8 x).drop (8 - m) := by
  unfold U64 at h
  have z : ∀ {a : Int} {t : List Int}, a = 0 → (a :: t).dropWhile (fun y => decide (y = 0)) = t.dropWhile (fun y => decide (y = 0)) := by
    intro a t ha; simp [List.dropWhile, ha]
  have nz : ∀ {a : Int} {t : List Int}, a ≠ 0 → (a :: t).dropWhile (fun y => decide (y = 0)) = a :: t := by
    intro a t ha; simp [List.dropWhile, ha]
  unfold p8
  rcases (show m = 0 ∨ m = 1 ∨ m = 2 ∨ m = 3 ∨ m = 4 ∨ m = 5 ∨ m = 6 ∨ m = 7 ∨ m = 8 by omega) with rfl | rfl | rfl | rfl | rfl | rfl | rfl | rfl | rfl <;> simp only [Int.reducePow, Nat.reduceSub] at h1 h2
  · rw [z (by omega), z (by omega), z (by omega), z (by omega), z (by omega), z (by omega), z (by omega), z (by omega)]; rfl
  · rw [z (by omega), z (by omega), z (by omega), z (by omega), z (by omega), z (by omega), z (by omega), nz (by omega)]; rfl
  · rw [z (by omega), z (by omega), z (by omega), z (by omega), z (by omega), z (by omega), nz (by omega)]; rfl
  · rw [z (by omega), z (by omega), z (by omega), z (by omega), z (by omega), nz (by omega)]; rfl
  · rw [z (by omega), z (by omega), z (by omega), z (by omega), nz (by omega)]; rfl
  · rw [z (by omega), z (by omega), z (by omega), nz (by omega)]; rfl
  · rw [z (by omega), z (by omega), nz (by omega)]; rfl
  · rw [z (by omega), nz (by omega)]; rfl
  · rw [nz (by omega)]; rfl
theorem cut_eq (b m : Nat) (hb : (b + 7) / 8 = m) (hm : m ≤ 8) (hL : b ≤ 64) : wrap64 (8 - (wrap64 (Int.tdiv (wrap64 ((b : Int) + 7)) 8))) = ((8 - m : Nat) : Int) := by
  rw [wrap64_id (show -9223372036854775808 ≤ (b : Int) + 7 by omega) (by omega), tdiv_nn (show (0 : Int) ≤ (b : Int) + 7 by omega), wrap64_id (show -9223372036854775808 ≤ ((b : Int) + 7) / 8 by omega) (by omega), wrap64_id (by omega) (by omega)]
  omega
theorem len_f (x : Int) (h : U64 x) : bits_Len64.f x = some ((Lib.bitLen x.toNat : Nat) : Int) := by
  unfold U64 at h
  unfold bits_Len64.f
  rw [if_pos h.1, if_pos (by omega)]
theorem clone_f (l : List Int) (h : l.length < 140737488355328) : slices_Clone_byte_byte.f l = some l := by
  unfold slices_Clone_byte_byte.f
  rw [if_pos h]
theorem p8_len (x : Int) : (p8 x).length = 8 := rfl
theorem least_f (x : Int) (h : U64 x) (k : Nat) (hk : 2 < k) (m : Nat) (hm : m ≤ 8) (h1 : x < 256 ^ m) (h2 : m = 0 ∨ 256 ^ (m - 1) ≤ x) : word_Least.f k x = some ((p8 x).drop (8 - m)) := by
  have hb := bitLen_m x h m hm h1 h2
  have hL : Lib.bitLen x.toNat ≤ 64 := by omega
  clear h1 h2
  unfold word_Least.f
  rw [len_f x h]
  simp only [Option.bind_some]
  rw [cut_eq _ m hb hm hL]
  generalize hq : 8 - m = q
  have hql : q ≤ 8 := by omega
  clear hb hL hq
  rw [put_f x h k hk]
  simp only [Option.bind_some]
  rw [if_pos (by omega), p8_len, if_pos (by omega), Int.toNat_natCast, clone_f _ (by rw [List.length_drop, p8_len]; omega)]
  simp only [Option.bind_some]
/-! a number's least bytes -/
def lb (x : Int) : List Int := (p8 x).dropWhile (fun y => decide (y = 0))
theorem lb_len (x : Int) : (lb x).length ≤ 8 := by
  have := (List.dropWhile_sublist (fun y => decide (y = 0)) (l := p8 x)).length_le
  rw [p8_len] at this; exact this
theorem lb_bytes (x : Int) : Bytes (lb x) := fun y hy => p8_bytes x y ((List.dropWhile_sublist _).subset hy)
theorem least_lb (x : Int) (h : U64 x) (k : Nat) (hk : 9 ≤ k) : word_Least.f k x = some (lb x) := by
  obtain ⟨m, h0, h1, h2⟩ := m_cases x h
  rw [least_f x h k (by omega) m h0 h1 h2, ← drop_m x h m h0 h1 h2]; rfl
def num1 (x : Int) : List Int := ((lb x).length : Int) :: lb x
theorem num1_len (x : Int) : (num1 x).length ≤ 9 := by have := lb_len x; unfold num1; rw [List.length_cons]; omega
theorem num1_bytes (x : Int) : Bytes (num1 x) := fun y hy => by
  unfold num1 at hy
  rcases List.mem_cons.1 hy with rfl | hy
  · have := lb_len x; omega
  · exact lb_bytes x y hy
def wr (a b c : Int) (tag : List Int) : List Int := 87 :: (num1 a ++ (num1 b ++ (num1 c ++ tag)))
theorem wr_bytes (a b c : Int) (tag : List Int) (h : Bytes tag) : Bytes (wr a b c tag) := fun y hy => by
  unfold wr at hy
  rcases List.mem_cons.1 hy with rfl | hy
  · omega
  · rcases List.mem_append.1 hy with hy | hy
    · exact num1_bytes a y hy
    · rcases List.mem_append.1 hy with hy | hy
      · exact num1_bytes b y hy
      · rcases List.mem_append.1 hy with hy | hy
        · exact num1_bytes c y hy
        · exact h y hy
theorem wr_len (a b c : Int) (tag : List Int) : (wr a b c tag).length ≤ 28 + tag.length := by
  have ha := num1_len a
  have hb := num1_len b
  have hc := num1_len c
  unfold wr
  simp only [List.length_cons, List.length_append]
  omega
theorem write_step (out l : List Int) (i : Nat) (a b c : Int) (tag : List Int) (hi : i < l.length) (hl : l.length = 3) (h : U64 (rd l (i : Int))) (ho : out.length ≤ 1000000) (k : Nat) (hk : 9 ≤ k) :
    frame_Write.l0 (k + 1) out l 3 (i : Int) a b c tag = frame_Write.l0 k (out ++ num1 (rd l (i : Int))) l 3 ((i + 1 : Nat) : Int) a b c tag := by
  have hb := lb_len (rd l (i : Int))
  simp only [frame_Write.l0]
  rw [if_pos (by omega), if_pos (by omega), if_pos (by omega), least_lb _ h k hk]
  simp only [Option.bind_some]
  rw [if_pos (by omega), if_pos (by rw [List.length_append, List.length_singleton]; omega), wrap64_id (by omega) (by omega), Int.emod_eq_of_lt (by omega) (by omega), List.append_assoc]
  rfl
theorem right_f (a b c : Int) (tag : List Int) : frame_Right.f a b c tag = some ((tag.length : Int) == 8) := rfl
theorem write_f (a b c : Int) (tag : List Int) (ha : U64 a) (hb : U64 b) (hc : U64 c) (ht : tag.length ≤ 1000000) (k : Nat) (hk : 20 ≤ k) :
    frame_Write.f k a b c tag = some (if (tag.length : Int) = 8 then (wr a b c tag, 0) else ([], 1)) := by
  unfold frame_Write.f
  rw [right_f]
  simp only [Option.bind_some]
  by_cases h : (tag.length : Int) = 8
  · rw [if_pos h, if_pos (beq_iff_eq.mpr h)]
    obtain ⟨k, rfl⟩ : ∃ m, k = m + 1 + 1 + 1 + 1 := ⟨k - 4, by omega⟩
    have la := num1_len a
    have lb' := num1_len b
    have lc := num1_len c
    show frame_Write.l0 (k + 1 + 1 + 1 + 1) [87] [a, b, c] 3 ((0 : Nat) : Int) a b c tag = _
    rw [write_step [87] [a, b, c] 0 a b c tag (by simp) rfl ha (by decide) _ (by omega), write_step _ [a, b, c] 1 a b c tag (by simp) rfl hb (by rw [List.length_append]; simp only [List.length_singleton]; have : (rd [a, b, c] ((0 : Nat) : Int)) = a := rfl; rw [this]; omega) _ (by omega),
      write_step _ [a, b, c] 2 a b c tag (by simp) rfl hc (by rw [List.length_append, List.length_append]; simp only [List.length_singleton]; have h0 : (rd [a, b, c] ((0 : Nat) : Int)) = a := rfl; have h1 : (rd [a, b, c] ((1 : Nat) : Int)) = b := rfl; rw [h0, h1]; omega) _ (by omega)]
    have h0 : (rd [a, b, c] ((0 : Nat) : Int)) = a := rfl
    have h1 : (rd [a, b, c] ((1 : Nat) : Int)) = b := rfl
    have h2 : (rd [a, b, c] ((2 : Nat) : Int)) = c := rfl
    rw [h0, h1, h2]
    simp only [frame_Write.l0]
    rw [if_neg (by omega), if_pos (by simp only [List.length_append, List.length_singleton]; omega)]
    simp [wr]
  · rw [if_neg h, if_neg (by simpa using h)]
/-! reading -/
theorem fromLeast_f (l : List Int) (hb : Bytes l) (hl : l.length ≤ 8) (k : Nat) (hk : l.length < k) : word_FromLeast.f k l = some (if 0 < l.length ∧ rd l 0 = 0 then (0, 3) else (val l, 0)) := by
  unfold word_FromLeast.f
  rw [if_neg (by omega), value_f l hb (by omega) k hk]
  simp only [Option.bind_some]
  by_cases h : 0 < l.length
  · rw [if_pos (by omega), if_pos (by omega)]
    by_cases h2 : rd l 0 = 0
    · rw [if_pos h2, if_pos ⟨h, h2⟩]
    · rw [if_neg h2, if_neg (fun hh => h2 hh.2)]
  · rw [if_neg (by omega), if_neg (fun hh => h hh.1)]
/-- A number that is next: its value, what is left, and an error. -/
def rdn (l : List Int) : Int × List Int × Int :=
  if l.length < 1 then (0, l, 2)
  else if 8 < rd l 0 then (0, l.drop 1, 4)
  else if (l.drop 1).length < (rd l 0).toNat then (0, l.drop 1, 2)
  else if 0 < ((l.drop 1).take (rd l 0).toNat).length ∧ rd ((l.drop 1).take (rd l 0).toNat) 0 = 0 then (0, (l.drop 1).drop (rd l 0).toNat, 3)
  else (val ((l.drop 1).take (rd l 0).toNat), (l.drop 1).drop (rd l 0).toNat, 0)
theorem nm_e (l : List Int) (e : Int) (he : e ≠ 0) (k : Nat) : nm.f k l e = some (0, l, e) := by unfold nm.f; rw [if_neg he]
theorem nm_ok (l : List Int) (hb : Bytes l) (k : Nat) (hk : 9 ≤ k) : nm.f k l 0 = some (rdn l) := by
  unfold nm.f rdn
  rw [if_pos rfl]
  have hr := rd_bytes hb 0
  by_cases h1 : l.length < 1
  · rw [if_pos h1, if_pos h1]
  · rw [if_neg h1, if_neg h1]
    by_cases h2 : 8 < rd l 0
    · rw [if_pos h2, if_pos h2]
    · rw [if_neg h2, if_neg h2, wrap64_id (by omega) (by omega), if_pos hr.1]
      by_cases h3 : (l.drop 1).length < (rd l 0).toNat
      · rw [if_pos h3, if_pos h3, fromLeast_f [] (fun x hx => by cases hx) (by simp) k (by simp; omega)]
        rfl
      · have hl : ((l.drop 1).take (rd l 0).toNat).length ≤ 8 := by rw [List.length_take]; omega
        rw [if_neg h3, if_neg h3, fromLeast_f _ ((hb.drop 1).take _) hl k (by omega)]
        by_cases h4 : 0 < ((l.drop 1).take (rd l 0).toNat).length ∧ rd ((l.drop 1).take (rd l 0).toNat) 0 = 0
        · rw [if_pos h4, if_pos h4]; rfl
        · rw [if_neg h4, if_neg h4]; rfl
def Er (e : Int) : Int × Int × Int × List Int × Int := (0, 0, 0, [], e)
/-- What is left of a payload's numbers, and its tag. -/
def RR : Nat → List Int → List Int → Int × Int × Int × List Int × Int
  | 0, l, acc => if l.length < 8 then Er 2 else if 8 < l.length then Er 4 else (rd acc 0, rd acc 1, rd acc 2, l, 0)
  | j + 1, l, acc => if (rdn l).2.2 = 0 then RR j (rdn l).2.1 (acc ++ [(rdn l).1]) else Er (rdn l).2.2
def rdP (b : List Int) : Int × Int × Int × List Int × Int := if b.length < 1 then Er 2 else if rd b 0 = 87 then RR 3 (b.drop 1) [] else Er 3
theorem rdn_bytes (l : List Int) (hb : Bytes l) : Bytes (rdn l).2.1 := by
  unfold rdn
  split
  · exact hb
  · split
    · exact hb.drop 1
    · split
      · exact hb.drop 1
      · split
        · exact (hb.drop 1).drop _
        · exact (hb.drop 1).drop _
theorem read_f (b : List Int) (hb : Bytes b) (k : Nat) (hk : 9 ≤ k) : frame_Read.f k b = some (rdP b) := by
  unfold frame_Read.f rdP
  have hne : ∀ (l : List Int) (e : Int), e ≠ 0 → ((nm.f k l e).bind fun q1 => (nm.f k q1.2.1 q1.2.2).bind fun q2 => (nm.f k q2.2.1 q2.2.2).bind fun q3 =>
      if q3.2.2 = 0 then (if q3.2.1.length < 8 then some (0, 0, 0, [], 2) else if 0 < (q3.2.1.drop 8).length then some (0, 0, 0, [], 4) else some (q1.1, q2.1, q3.1, q3.2.1.take 8, 0)) else some (0, 0, 0, [], q3.2.2)) = some (Er e) := by
    intro l e he
    rw [nm_e l e he]; simp only [Option.bind_some]
    rw [nm_e l e he]; simp only [Option.bind_some]
    rw [nm_e l e he]; simp only [Option.bind_some]
    rw [if_neg he]; rfl
  by_cases h1 : b.length < 1
  · rw [if_pos h1, if_pos h1, if_pos h1]; exact hne b 2 (by decide)
  · rw [if_neg h1, if_neg h1, if_neg h1]
    by_cases h2 : rd b 0 = 87
    · rw [if_pos h2, if_pos h2]
      have hb1 := hb.drop 1
      generalize b.drop 1 = l at hb1
      rw [nm_ok l hb1 k hk]; simp only [Option.bind_some, RR]
      have hb2 := rdn_bytes l hb1
      generalize rdn l = q1 at hb2
      obtain ⟨v1, l2, e1⟩ := q1
      dsimp only at hb2 ⊢
      by_cases he1 : e1 = 0
      · subst he1
        rw [if_pos rfl, nm_ok l2 hb2 k hk]; simp only [Option.bind_some]
        have hb3 := rdn_bytes l2 hb2
        generalize rdn l2 = q2 at hb3
        obtain ⟨v2, l3, e2⟩ := q2
        dsimp only at hb3 ⊢
        by_cases he2 : e2 = 0
        · subst he2
          rw [if_pos rfl, nm_ok l3 hb3 k hk]; simp only [Option.bind_some]
          generalize rdn l3 = q3
          obtain ⟨v3, l4, e3⟩ := q3
          dsimp only
          by_cases he3 : e3 = 0
          · subst he3
            rw [if_pos rfl, if_pos rfl]
            by_cases h8 : l4.length < 8
            · rw [if_pos h8, if_pos h8]; rfl
            · rw [if_neg h8, if_neg h8, List.length_drop]
              by_cases h9 : 8 < l4.length
              · rw [if_pos (by omega), if_pos h9]; rfl
              · rw [if_neg (by omega), if_neg h9, List.take_of_length_le (by omega)]; rfl
          · rw [if_neg he3, if_neg he3]; rfl
        · rw [if_neg he2, nm_e l3 e2 he2]; simp only [Option.bind_some]
          rw [if_neg he2]; rfl
      · rw [if_neg he1, nm_e l2 e1 he1]; simp only [Option.bind_some]
        rw [nm_e l2 e1 he1]; simp only [Option.bind_some]
        rw [if_neg he1]; rfl
    · rw [if_neg h2, if_neg h2]; exact hne (b.drop 1) 3 (by decide)
theorem rd_drop (l : List Int) (i : Nat) (h : i < l.length) : rd (l.drop i) 0 = rd l (i : Int) := by
  have := rd_at (l := l.drop i) 0 (by rw [List.length_drop]; omega)
  rw [show ((0 : Nat) : Int) = 0 from rfl] at this
  rw [this, rd_at i h, List.getElem_drop]; simp
theorem rd_take (l : List Int) (n : Nat) (h : 0 < n) (hl : 0 < l.length) : rd (l.take n) 0 = rd l 0 := by
  have h1 := rd_at (l := l.take n) 0 (by rw [List.length_take]; omega)
  have h2 := rd_at (l := l) 0 hl
  rw [show ((0 : Nat) : Int) = 0 from rfl] at h1 h2
  rw [h1, h2, List.getElem_take]
theorem same_refl (a b c : Int) (l : List Int) : wristbandref12_Same.f a b c l a b c l = some true := by
  unfold wristbandref12_Same.f
  rw [if_pos rfl, if_pos rfl, if_pos rfl]
  simp
def mg (a b c : Int) : List Int := 67 :: (p8 a ++ (p8 b ++ p8 c))
theorem msg_f (a b c : Int) (ha : U64 a) (hb : U64 b) (hc : U64 c) (k : Nat) (hk : 20 ≤ k) : frame_Msg.f k a b c = some (mg a b c) := by
  unfold frame_Msg.f
  rw [put_f a ha k (by omega), put_f b hb k (by omega), put_f c hc k (by omega)]
  simp only [Option.bind_some]
  unfold slices_Concat_byte_byte.f
  rw [if_pos ⟨by simp, by simp [p8]⟩]
  simp [mg]
theorem awake12 : wristbandlaw12_awake.f 200 = some true := by
  unfold wristbandlaw12_awake.f
  simp only [toList_data]
  decide +kernel
theorem awake12_at (k : Nat) (hk : 200 ≤ k) : wristbandlaw12_awake.f k = some true := at_rounds wristbandlaw12_awake.mono hk awake12
theorem vsL (v x : Int) (h0 : 0 ≤ v) (h1 : v < 72057594037927936) (hx : 0 ≤ x ∧ x ≤ 255) : vs v x = v * 256 + x := by unfold vs; omega
theorem val8 (a b c d e f g h : Int) (ha : 0 ≤ a ∧ a ≤ 255) (hb : 0 ≤ b ∧ b ≤ 255) (hc : 0 ≤ c ∧ c ≤ 255) (hd : 0 ≤ d ∧ d ≤ 255) (he : 0 ≤ e ∧ e ≤ 255) (hf : 0 ≤ f ∧ f ≤ 255) (hg : 0 ≤ g ∧ g ≤ 255) (hh : 0 ≤ h ∧ h ≤ 255) : val [a, b, c, d, e, f, g, h] = ((((((((0 * 256 + a) * 256 + b) * 256 + c) * 256 + d) * 256 + e) * 256 + f) * 256 + g) * 256 + h) := by
  simp only [val, List.foldl]
  rw [vsL (0) a (by omega) (by omega) ha, vsL ((0 * 256 + a)) b (by omega) (by omega) hb, vsL (((0 * 256 + a) * 256 + b)) c (by omega) (by omega) hc, vsL ((((0 * 256 + a) * 256 + b) * 256 + c)) d (by omega) (by omega) hd, vsL (((((0 * 256 + a) * 256 + b) * 256 + c) * 256 + d)) e (by omega) (by omega) he, vsL ((((((0 * 256 + a) * 256 + b) * 256 + c) * 256 + d) * 256 + e)) f (by omega) (by omega) hf, vsL (((((((0 * 256 + a) * 256 + b) * 256 + c) * 256 + d) * 256 + e) * 256 + f)) g (by omega) (by omega) hg, vsL ((((((((0 * 256 + a) * 256 + b) * 256 + c) * 256 + d) * 256 + e) * 256 + f) * 256 + g)) h (by omega) (by omega) hh]
theorem val_p8 (x : Int) (h : U64 x) : val (p8 x) = x := by
  have hb := p8_bytes x
  unfold p8 at *
  have m : ∀ y : Int, 0 ≤ y % 256 ∧ y % 256 ≤ 255 := fun y => by omega
  rw [val8 _ _ _ _ _ _ _ _ (m _) (m _) (m _) (m _) (m _) (m _) (m _) (m _)]
  unfold U64 at h
  rw [show x / 65536 = x / 256 / 256 by omega, show x / 16777216 = x / 256 / 256 / 256 by omega, show x / 4294967296 = x / 256 / 256 / 256 / 256 by omega, show x / 1099511627776 = x / 256 / 256 / 256 / 256 / 256 by omega, show x / 281474976710656 = x / 256 / 256 / 256 / 256 / 256 / 256 by omega, show x / 72057594037927936 = x / 256 / 256 / 256 / 256 / 256 / 256 / 256 by omega]
  have s : ∀ y : Int, y = 256 * (y / 256) + y % 256 := fun y => by omega
  have t : x / 256 / 256 / 256 / 256 / 256 / 256 / 256 < 256 ∧ 0 ≤ x / 256 / 256 / 256 / 256 / 256 / 256 / 256 := by omega
  have s0 := s x
  have s1 := s (x / 256)
  have s2 := s (x / 256 / 256)
  have s3 := s (x / 256 / 256 / 256)
  have s4 := s (x / 256 / 256 / 256 / 256)
  have s5 := s (x / 256 / 256 / 256 / 256 / 256)
  have s6 := s (x / 256 / 256 / 256 / 256 / 256 / 256)
  have s7 : x / 256 / 256 / 256 / 256 / 256 / 256 / 256 % 256 = x / 256 / 256 / 256 / 256 / 256 / 256 / 256 := by omega
  rw [s7]
  clear s7 m s hb
  generalize x / 256 / 256 / 256 / 256 / 256 / 256 / 256 = y7 at *
  generalize x / 256 / 256 / 256 / 256 / 256 / 256 % 256 = r6 at *
  generalize x / 256 / 256 / 256 / 256 / 256 / 256 = y6 at *
  generalize x / 256 / 256 / 256 / 256 / 256 % 256 = r5 at *
  generalize x / 256 / 256 / 256 / 256 / 256 = y5 at *
  generalize x / 256 / 256 / 256 / 256 % 256 = r4 at *
  generalize x / 256 / 256 / 256 / 256 = y4 at *
  generalize x / 256 / 256 / 256 % 256 = r3 at *
  generalize x / 256 / 256 / 256 = y3 at *
  generalize x / 256 / 256 % 256 = r2 at *
  generalize x / 256 / 256 = y2 at *
  generalize x / 256 % 256 = r1 at *
  generalize x / 256 = y1 at *
  generalize x % 256 = r0 at *
  omega
theorem p8_val : ∀ l : List Int, Bytes l → l.length = 8 → p8 (val l) = l
  | [a, b, c, d, e, f, g, h], hb, _ => by
    have ha := hb a (by simp)
    have hbb := hb b (by simp)
    have hc := hb c (by simp)
    have hd := hb d (by simp)
    have he := hb e (by simp)
    have hf := hb f (by simp)
    have hg := hb g (by simp)
    have hh := hb h (by simp)
    rw [val8 _ _ _ _ _ _ _ _ ha hbb hc hd he hf hg hh]
    clear hb
    unfold p8
    congr 1
    · omega
    congr 1
    · omega
    congr 1
    · omega
    congr 1
    · omega
    congr 1
    · omega
    congr 1
    · omega
    congr 1
    · omega
    congr 1
    omega
  | [], _, h => by simp at h
  | [_], _, h => by simp at h
  | [_, _], _, h => by simp at h
  | [_, _, _], _, h => by simp at h
  | [_, _, _, _], _, h => by simp at h
  | [_, _, _, _, _], _, h => by simp at h
  | [_, _, _, _, _, _], _, h => by simp at h
  | [_, _, _, _, _, _, _], _, h => by simp at h
  | _ :: _ :: _ :: _ :: _ :: _ :: _ :: _ :: _ :: _, _, h => by simp at h
/-! a payload and its bytes, and back -/
theorem foldl_zeros (j : Nat) (l : List Int) : val (List.replicate j 0 ++ l) = val l := by
  unfold val
  rw [List.foldl_append]
  have : ∀ j : Nat, (List.replicate j (0 : Int)).foldl vs 0 = 0 := by
    intro j
    induction j with
    | zero => rfl
    | succ j ih => rw [List.replicate_succ, List.foldl_cons]; exact ih
  rw [this]
theorem zeros_of_drop : ∀ l : List Int, ∃ j, l = List.replicate j 0 ++ l.dropWhile (fun y => decide (y = 0))
  | [] => ⟨0, rfl⟩
  | x :: t => by
    by_cases h : x = 0
    · obtain ⟨j, hj⟩ := zeros_of_drop t
      refine ⟨j + 1, ?_⟩
      subst h
      simp only [List.dropWhile, decide_true, List.replicate_succ, List.cons_append]
      rw [← hj]
    · exact ⟨0, by simp [List.dropWhile, h]⟩
theorem val_lb (x : Int) (h : U64 x) : val (lb x) = x := by
  obtain ⟨j, hj⟩ := zeros_of_drop (p8 x)
  have := val_p8 x h
  rw [hj, foldl_zeros] at this
  exact this
theorem head_dropWhile : ∀ l : List Int, 0 < (l.dropWhile (fun y => decide (y = 0))).length → rd (l.dropWhile (fun y => decide (y = 0))) 0 ≠ 0
  | [], h => by simp at h
  | x :: t, h => by
    by_cases hx : x = 0
    · have e : (x :: t).dropWhile (fun y => decide (y = 0)) = t.dropWhile (fun y => decide (y = 0)) := by simp [List.dropWhile, hx]
      rw [e] at h ⊢
      exact head_dropWhile t h
    · have e : (x :: t).dropWhile (fun y => decide (y = 0)) = x :: t := by simp [List.dropWhile, hx]
      rw [e]
      exact hx
theorem drop_zeros (j : Nat) (l : List Int) (h : 0 < l.length → rd l 0 ≠ 0) : (List.replicate j 0 ++ l).dropWhile (fun y => decide (y = 0)) = l := by
  induction j with
  | zero =>
    match l, h with
    | [], _ => rfl
    | x :: t, h =>
      have hx : x ≠ 0 := h (by simp)
      simp [List.dropWhile, hx]
  | succ j ih => rw [List.replicate_succ, List.cons_append]; simp only [List.dropWhile, decide_true]; exact ih
theorem lb_val (l : List Int) (hb : Bytes l) (hl : l.length ≤ 8) (h : 0 < l.length → rd l 0 ≠ 0) : lb (val l) = l := by
  have hb8 : Bytes (List.replicate (8 - l.length) 0 ++ l) := fun y hy => by
    rcases List.mem_append.1 hy with hy | hy
    · have := (List.mem_replicate.1 hy).2; omega
    · exact hb y hy
  have := p8_val (List.replicate (8 - l.length) 0 ++ l) hb8 (by rw [List.length_append, List.length_replicate]; omega)
  rw [foldl_zeros] at this
  unfold lb
  rw [this]
  exact drop_zeros _ l h
theorem rd_cons (x : Int) (l : List Int) : rd (x :: l) 0 = x := rfl
/-- A number that is whole is read as it was. -/
theorem rdn_num1 (x : Int) (h : U64 x) (rest : List Int) : rdn (num1 x ++ rest) = (x, rest, 0) := by
  have hl := lb_len x
  have hr : rd (num1 x ++ rest) 0 = ((lb x).length : Int) := rfl
  have hd : (num1 x ++ rest).drop 1 = lb x ++ rest := rfl
  have ht : (lb x ++ rest).take (lb x).length = lb x := List.take_left
  have hdd : (lb x ++ rest).drop (lb x).length = rest := List.drop_left
  unfold rdn
  rw [if_neg (by unfold num1; simp), hr, if_neg (by omega), hd, Int.toNat_natCast, ht, hdd, if_neg (by rw [List.length_append]; omega), val_lb x h]
  by_cases h0 : 0 < (lb x).length
  · rw [if_neg (fun hh => head_dropWhile (p8 x) h0 hh.2)]
  · rw [if_neg (fun hh => h0 hh.1)]
/-- A number that is cut is too short. -/
theorem rdn_cut (x : Int) (rest : List Int) (m : Nat) (hm : m < (num1 x).length) : (rdn ((num1 x ++ rest).take m)).2.2 = 2 := by
  have hl := lb_len x
  have hn : (num1 x).length = (lb x).length + 1 := rfl
  unfold rdn
  by_cases h0 : m = 0
  · subst h0; rw [if_pos (by simp)]
  · have hlen : ((num1 x ++ rest).take m).length = m := by rw [List.length_take, List.length_append]; omega
    have hr : rd ((num1 x ++ rest).take m) 0 = ((lb x).length : Int) := by rw [rd_take _ m (by omega) (by rw [List.length_append]; omega)]; rfl
    rw [if_neg (by omega), hr, if_neg (by omega), Int.toNat_natCast, if_pos (by rw [List.length_drop, hlen]; omega)]
theorem rdn_take (x : Int) (h : U64 x) (rest : List Int) (m : Nat) (hm : (num1 x).length ≤ m) : rdn ((num1 x ++ rest).take m) = (x, rest.take (m - (num1 x).length), 0) := by
  rw [List.take_append, List.take_of_length_le hm]
  exact rdn_num1 x h _
/-- What is read of bytes, where it is whole: just these bytes. -/
theorem rdn_inv (l : List Int) (hb : Bytes l) (h : (rdn l).2.2 = 0) : l = num1 (rdn l).1 ++ (rdn l).2.1 ∧ U64 (rdn l).1 := by
  unfold rdn at h ⊢
  have hr := rd_bytes hb 0
  by_cases h1 : l.length < 1
  · rw [if_pos h1] at h; exact absurd h (show ¬ (2 : Int) = 0 by decide)
  · rw [if_neg h1] at h ⊢
    by_cases h2 : 8 < rd l 0
    · rw [if_pos h2] at h; exact absurd h (show ¬ (4 : Int) = 0 by decide)
    · rw [if_neg h2] at h ⊢
      by_cases h3 : (l.drop 1).length < (rd l 0).toNat
      · rw [if_pos h3] at h; exact absurd h (show ¬ (2 : Int) = 0 by decide)
      · rw [if_neg h3] at h ⊢
        by_cases h4 : 0 < ((l.drop 1).take (rd l 0).toNat).length ∧ rd ((l.drop 1).take (rd l 0).toNat) 0 = 0
        · rw [if_pos h4] at h; exact absurd h (show ¬ (3 : Int) = 0 by decide)
        · rw [if_neg h4]
          dsimp only
          have hbt : Bytes ((l.drop 1).take (rd l 0).toNat) := (hb.drop 1).take _
          have hlt : ((l.drop 1).take (rd l 0).toNat).length = (rd l 0).toNat := by rw [List.length_take]; omega
          have hlv := lb_val _ hbt (by omega) (fun hp hz => h4 ⟨hp, hz⟩)
          have hv := val_range hbt
          refine ⟨?_, hv⟩
          unfold num1
          rw [hlv, hlt, List.cons_append, List.take_append_drop]
          match l, h1, hr with
          | x :: t, _, hr => rw [rd_cons] at hr ⊢; simp; omega
theorem rdP_wr (a b c : Int) (tag : List Int) (ha : U64 a) (hb : U64 b) (hc : U64 c) : rdP (wr a b c tag) = if tag.length < 8 then Er 2 else if 8 < tag.length then Er 4 else (a, b, c, tag, 0) := by
  unfold rdP wr
  rw [if_neg (by simp), rd_cons, if_pos rfl]
  show RR 3 (num1 a ++ (num1 b ++ (num1 c ++ tag))) [] = _
  simp only [RR, rdn_num1 a ha, rdn_num1 b hb, rdn_num1 c hc, if_true]
  rfl
theorem wr_app (a b c : Int) (tag more : List Int) : wr a b c tag ++ more = wr a b c (tag ++ more) := by simp [wr]
theorem rdP_cut (a b c : Int) (tag : List Int) (ha : U64 a) (hb : U64 b) (hc : U64 c) (ht : tag.length = 8) (n : Nat) (hn : n < (wr a b c tag).length) : rdP ((wr a b c tag).take n) = Er 2 := by
  have hlen : (wr a b c tag).length = 1 + ((num1 a).length + ((num1 b).length + ((num1 c).length + tag.length))) := by simp [wr]; omega
  unfold rdP
  by_cases h0 : n = 0
  · subst h0; rw [if_pos (by simp)]
  · obtain ⟨m, rfl⟩ : ∃ m, n = m + 1 := ⟨n - 1, by omega⟩
    have e : (wr a b c tag).take (m + 1) = 87 :: (num1 a ++ (num1 b ++ (num1 c ++ tag))).take m := rfl
    rw [e, if_neg (by simp), rd_cons, if_pos rfl]
    show RR 3 ((num1 a ++ (num1 b ++ (num1 c ++ tag))).take m) [] = _
    by_cases h1 : m < (num1 a).length
    · rw [RR, rdn_cut a _ m h1, if_neg (by decide)]
    · rw [RR, rdn_take a ha _ m (by omega), if_pos rfl]
      dsimp only
      by_cases h2 : m - (num1 a).length < (num1 b).length
      · rw [RR, rdn_cut b _ _ h2, if_neg (by decide)]
      · rw [RR, rdn_take b hb _ _ (by omega), if_pos rfl]
        dsimp only
        by_cases h3 : m - (num1 a).length - (num1 b).length < (num1 c).length
        · rw [RR, rdn_cut c _ _ h3, if_neg (by decide)]
        · rw [RR, rdn_take c hc _ _ (by omega), if_pos rfl]
          dsimp only
          rw [RR, if_pos (by rw [List.length_take]; omega)]
/-- What is read with an error is nothing; what is read without one is of just these bytes. -/
theorem rdP_inv (b : List Int) (hb : Bytes b) : (∃ e, e ≠ 0 ∧ rdP b = Er e) ∨ ∃ v1 v2 v3 tag, rdP b = (v1, v2, v3, tag, 0) ∧ U64 v1 ∧ U64 v2 ∧ U64 v3 ∧ tag.length = 8 ∧ b = wr v1 v2 v3 tag := by
  unfold rdP
  by_cases h0 : b.length < 1
  · rw [if_pos h0]; exact .inl ⟨2, by decide, rfl⟩
  · rw [if_neg h0]
    by_cases h1 : rd b 0 = 87
    · rw [if_pos h1]
      have hb1 := hb.drop 1
      have hbe : b = 87 :: b.drop 1 := by
        match b, h0, h1 with
        | x :: t, _, h1 => rw [rd_cons] at h1; rw [h1]; rfl
      generalize b.drop 1 = l at hb1 hbe
      simp only [RR]
      have i1 := rdn_inv l hb1
      have hb2 := rdn_bytes l hb1
      generalize rdn l = q1 at i1 hb2
      obtain ⟨v1, l2, e1⟩ := q1
      dsimp only at i1 hb2 ⊢
      by_cases he1 : e1 = 0
      · rw [if_pos he1]
        have i2 := rdn_inv l2 hb2
        have hb3 := rdn_bytes l2 hb2
        generalize rdn l2 = q2 at i2 hb3
        obtain ⟨v2, l3, e2⟩ := q2
        dsimp only at i2 hb3 ⊢
        by_cases he2 : e2 = 0
        · rw [if_pos he2]
          have i3 := rdn_inv l3 hb3
          generalize rdn l3 = q3 at i3
          obtain ⟨v3, l4, e3⟩ := q3
          dsimp only at i3 ⊢
          by_cases he3 : e3 = 0
          · rw [if_pos he3]
            by_cases h8 : l4.length < 8
            · rw [if_pos h8]; exact .inl ⟨2, by decide, rfl⟩
            · rw [if_neg h8]
              by_cases h9 : 8 < l4.length
              · rw [if_pos h9]; exact .inl ⟨4, by decide, rfl⟩
              · rw [if_neg h9]
                obtain ⟨q1, u1⟩ := i1 he1
                obtain ⟨q2, u2⟩ := i2 he2
                obtain ⟨q3, u3⟩ := i3 he3
                refine .inr ⟨v1, v2, v3, l4, rfl, u1, u2, u3, by omega, ?_⟩
                rw [hbe, q1, q2, q3]; rfl
          · rw [if_neg he3]; exact .inl ⟨e3, he3, rfl⟩
        · rw [if_neg he2]; exact .inl ⟨e2, he2, rfl⟩
      · rw [if_neg he1]; exact .inl ⟨e1, he1, rfl⟩
    · rw [if_neg h1]; exact .inl ⟨3, by decide, rfl⟩
theorem wr_inj (a b c a' b' c' : Int) (t t' : List Int) (ha : U64 a) (hb : U64 b) (hc : U64 c) (ha' : U64 a') (hb' : U64 b') (hc' : U64 c') (ht : t.length = 8) (ht' : t'.length = 8) : wr a b c t = wr a' b' c' t' ↔ (a = a' ∧ b = b' ∧ c = c' ∧ t = t') := by
  constructor
  · intro h
    have h1 := rdP_wr a b c t ha hb hc
    have h2 := rdP_wr a' b' c' t' ha' hb' hc'
    rw [h, h2, if_neg (by omega), if_neg (by omega), if_neg (by omega), if_neg (by omega)] at h1
    simp only [Prod.mk.injEq] at h1
    exact ⟨h1.1.symm, h1.2.1.symm, h1.2.2.1.symm, h1.2.2.2.1.symm⟩
  · rintro ⟨rfl, rfl, rfl, rfl⟩; rfl
theorem mg_inj (a b c a' b' c' : Int) (ha : U64 a) (hb : U64 b) (hc : U64 c) (ha' : U64 a') (hb' : U64 b') (hc' : U64 c') : mg a b c = mg a' b' c' ↔ (a = a' ∧ b = b' ∧ c = c') := by
  constructor
  · intro h
    unfold mg at h
    have h1 := (List.cons.inj h).2
    obtain ⟨e1, h2⟩ := List.append_inj h1 (by rw [p8_len, p8_len])
    obtain ⟨e2, e3⟩ := List.append_inj h2 (by rw [p8_len, p8_len])
    have f1 := val_p8 a ha
    have f2 := val_p8 b hb
    have f3 := val_p8 c hc
    rw [e1, val_p8 a' ha'] at f1
    rw [e2, val_p8 b' hb'] at f2
    rw [e3, val_p8 c' hc'] at f3
    exact ⟨f1.symm, f2.symm, f3.symm⟩
  · rintro ⟨rfl, rfl, rfl⟩; rfl
theorem mg_bytes (a b c : Int) : Bytes (mg a b c) := fun y hy => by
  unfold mg at hy
  rcases List.mem_cons.1 hy with rfl | hy
  · omega
  · rcases List.mem_append.1 hy with hy | hy
    · exact p8_bytes a y hy
    · rcases List.mem_append.1 hy with hy | hy
      · exact p8_bytes b y hy
      · exact p8_bytes c y hy
theorem same_f (a b c a' b' c' : Int) (t t' : List Int) (ht : Bytes t) (ht' : Bytes t') : wristbandref12_Same.f a b c t a' b' c' t' = some (decide (a = a' ∧ b = b' ∧ c = c' ∧ t = t')) := by
  unfold wristbandref12_Same.f
  by_cases h1 : a = a'
  · rw [if_pos h1]
    by_cases h2 : b = b'
    · rw [if_pos h2]
      by_cases h3 : c = c'
      · rw [if_pos h3, str_beq t t' ht ht']; simp [h1, h2, h3]
      · rw [if_neg h3]; simp [h3]
    · rw [if_neg h2]; simp [h2]
  · rw [if_neg h1]; simp [h1]
/-! the law -/
theorem FrameBack_j3 (k : Nat) (l : List Int) (a b c : Int) (t : List Int) (a' b' c' : Int) (t' : List Int) (hl : Bytes l) (hll : l.length ≤ 1000000) (ha : U64 a) (hb : U64 b) (hc : U64 c) (ha' : U64 a') (hb' : U64 b') (hc' : U64 c') (hk : 60 ≤ k) :
    wristbandlaw12_FrameBack.j3 (k + 1) l (decide (a = a' ∧ b = b' ∧ c = c')) a b c t a' b' c' t' = some true := by
  simp only [wristbandlaw12_FrameBack.j3]
  rw [msg_f a b c ha hb hc k (by omega), msg_f a' b' c' ha' hb' hc' k (by omega), read_f l hl k (by omega)]
  simp only [Option.bind_some]
  have e : decide (mg a b c = mg a' b' c') = decide (a = a' ∧ b = b' ∧ c = c') := decide_eq_decide.2 (mg_inj a b c a' b' c' ha hb hc ha' hb' hc')
  rw [str_beq _ _ (mg_bytes a b c) (mg_bytes a' b' c'), e, if_neg (by simp)]
  rcases rdP_inv l hl with ⟨e, he, hE⟩ | ⟨v1, v2, v3, tag, hE, u1, u2, u3, h8, hbe⟩
  · rw [hE]
    show (if e = 0 then _ else _) = _
    rw [if_neg he]
    show (wristbandref12_Same.f 0 0 0 [] 0 0 0 []).bind _ = _
    rw [same_refl]; rfl
  · rw [hE]
    dsimp only
    rw [if_pos rfl, write_f v1 v2 v3 tag u1 u2 u3 (by omega) k (by omega)]
    simp only [Option.bind_some]
    rw [if_pos (show (tag.length : Int) = 8 by omega)]
    dsimp only
    rw [if_pos rfl, right_f]
    simp only [Option.bind_some]
    rw [if_pos (by simp [h8]), hbe]
    simp
theorem FrameBack_j2 (k : Nat) (l : List Int) (a b c : Int) (t : List Int) (a' b' c' : Int) (t' : List Int) (hl : Bytes l) (hll : l.length ≤ 1000000) (ha : U64 a) (hb : U64 b) (hc : U64 c) (ha' : U64 a') (hb' : U64 b') (hc' : U64 c') (hk : 60 ≤ k) :
    wristbandlaw12_FrameBack.j2 (k + 1 + 1) l a b c t a' b' c' t' = some true := by
  have h := FrameBack_j3 k l a b c t a' b' c' t' hl hll ha hb hc ha' hb' hc' hk
  simp only [wristbandlaw12_FrameBack.j2]
  by_cases h1 : a = a'
  · rw [if_pos h1]
    by_cases h2 : b = b'
    · rw [if_pos h2]
      have e : (c == c') = decide (a = a' ∧ b = b' ∧ c = c') := by rw [show (c == c') = decide (c = c') from rfl]; exact decide_eq_decide.2 ⟨fun h3 => ⟨h1, h2, h3⟩, fun h3 => h3.2.2⟩
      rw [e]; exact h
    · rw [if_neg h2]; rw [decide_eq_false (fun hh => h2 hh.2.1)] at h; exact h
  · rw [if_neg h1]; rw [decide_eq_false (fun hh => h1 hh.1)] at h; exact h
theorem FrameBack_j1 (k : Nat) (l : List Int) (cut : Int) (more : List Int) (a b c : Int) (t : List Int) (a' b' c' : Int) (t' : List Int) (hcut : 0 ≤ cut ∧ cut ≤ 255) (hl : Bytes l) (hll : l.length ≤ 1000000) (hm : Bytes more) (hml : more.length ≤ 1000000) (hbt : Bytes t) (ht : t.length = 8)
    (ha : U64 a) (hb : U64 b) (hc : U64 c) (ha' : U64 a') (hb' : U64 b') (hc' : U64 c') (hk : 60 ≤ k) :
    wristbandlaw12_FrameBack.j1 (k + 1 + 1 + 1) l cut more (wr a b c t) false a b c t a' b' c' t' = some true := by
  have h2 := FrameBack_j2 k l a b c t a' b' c' t' hl hll ha hb hc ha' hb' hc' hk
  have hwl := wr_len a b c t
  have hw0 : 0 < (wr a b c t).length := by simp [wr]
  have hwb := wr_bytes a b c t hbt
  simp only [wristbandlaw12_FrameBack.j1]
  rw [if_neg (by decide), if_neg (by omega), wrap64_id (by omega) (by omega), tmod_nn hcut.1]
  have hmod := Int.emod_lt_of_pos cut (show (0 : Int) < ((wr a b c t).length : Int) by omega)
  have hmod0 := Int.emod_nonneg cut (show ((wr a b c t).length : Int) ≠ 0 by omega)
  obtain ⟨n, hn⟩ : ∃ n : Nat, cut % ((wr a b c t).length : Int) = (n : Int) := ⟨(cut % ((wr a b c t).length : Int)).toNat, by omega⟩
  rw [hn] at hmod hmod0 ⊢
  rw [if_pos hmod0, if_pos (by omega), Int.toNat_natCast, read_f _ (hwb.take n) _ (by omega), rdP_cut a b c t ha hb hc ht n (by omega)]
  simp only [Option.bind_some, List.length_nil, List.nil_append]
  have hbm : Bytes (wr a b c t ++ more) := fun y hy => by
    rcases List.mem_append.1 hy with hy | hy
    · exact hwb y hy
    · exact hm y hy
  rw [if_pos (by omega), if_pos (by omega), read_f _ hbm _ (by omega), wr_app, rdP_wr a b c _ ha hb hc]
  simp only [Option.bind_some]
  rw [if_pos (show (Er 2).2.2.2.2 = 2 from rfl)]
  by_cases h : (more.length : Int) > 0
  · have hE : (if (t ++ more).length < 8 then Er 2 else if 8 < (t ++ more).length then Er 4 else (a, b, c, t ++ more, 0)) = Er 4 := by rw [if_neg (by rw [List.length_append]; omega), if_pos (by rw [List.length_append]; omega)]
    rw [if_pos h, hE, if_pos (show (Er 4).2.2.2.2 = 4 from rfl)]
    exact h2
  · rw [if_neg h]; exact h2
theorem FrameBack_j0 (k : Nat) (l : List Int) (cut : Int) (more : List Int) (a b c : Int) (t : List Int) (a' b' c' : Int) (t' : List Int) (hcut : 0 ≤ cut ∧ cut ≤ 255) (hl : Bytes l) (hll : l.length ≤ 1000000) (hm : Bytes more) (hml : more.length ≤ 1000000) (hbt : Bytes t) (hbt' : Bytes t') (htl : t.length ≤ 1000000) (htl' : t'.length ≤ 1000000)
    (ha : U64 a) (hb : U64 b) (hc : U64 c) (ha' : U64 a') (hb' : U64 b') (hc' : U64 c') (hk : 60 ≤ k) :
    wristbandlaw12_FrameBack.j0 (k + 1 + 1 + 1 + 1) l cut more false a b c t a' b' c' t' = some true := by
  have h2 := FrameBack_j2 (k + 1) l a b c t a' b' c' t' hl hll ha hb hc ha' hb' hc' (by omega)
  simp only [wristbandlaw12_FrameBack.j0]
  rw [if_neg (by decide), write_f a b c t ha hb hc htl _ (by omega), write_f a' b' c' t' ha' hb' hc' htl' _ (by omega)]
  simp only [Option.bind_some]
  by_cases ht : (t.length : Int) = 8
  · rw [if_pos ht]
    have ht8 : t.length = 8 := by omega
    have h1 := FrameBack_j1 k l cut more a b c t a' b' c' t' hcut hl hll hm hml hbt ht8 ha hb hc ha' hb' hc' hk
    have hwb := wr_bytes a b c t hbt
    dsimp only
    rw [if_pos rfl, read_f _ hwb _ (by omega), rdP_wr a b c t ha hb hc, if_neg (by omega), if_neg (by omega)]
    simp only [Option.bind_some]
    rw [if_pos trivial, same_refl]
    simp only [Option.bind_some]
    have hlen : (wr a b c t).length = 1 + ((num1 a).length + ((num1 b).length + ((num1 c).length + t.length))) := by simp [wr]; omega
    have la : 1 ≤ (num1 a).length ∧ (num1 a).length ≤ 9 := ⟨by simp [num1], num1_len a⟩
    have lb' : 1 ≤ (num1 b).length ∧ (num1 b).length ≤ 9 := ⟨by simp [num1], num1_len b⟩
    have lc : 1 ≤ (num1 c).length ∧ (num1 c).length ≤ 9 := ⟨by simp [num1], num1_len c⟩
    rw [if_pos trivial, if_neg (by omega), if_neg (by omega)]
    by_cases ht' : (t'.length : Int) = 8
    · rw [if_pos ht']
      dsimp only
      rw [if_pos rfl, same_f a b c a' b' c' t t' hbt hbt']
      simp only [Option.bind_some]
      have e : decide (wr a b c t = wr a' b' c' t') = decide (a = a' ∧ b = b' ∧ c = c' ∧ t = t') := decide_eq_decide.2 (wr_inj a b c a' b' c' t t' ha hb hc ha' hb' hc' ht8 (by omega))
      rw [str_beq _ _ hwb (wr_bytes a' b' c' t' hbt'), e, bne_self_eq_false]
      exact h1
    · rw [if_neg ht']
      dsimp only
      rw [if_neg (by decide)]
      exact h1
  · rw [if_neg ht]
    dsimp only
    rw [if_neg (by decide)]
    exact h2
theorem u64_of {x : Int} (h : (Lit.int .u64 x).wf = true) : U64 x := by have := bounds_u64 h; unfold U64; omega
theorem FrameBack : wristbandlaw12_FrameBack.Pure := by
  intro a b c t a' b' c' t' l cut more h0 h1 h2 _ hbt h3 h4 h5 _ hbt' _ _ hl h6 _ _ hm
  refine ⟨300 + 1 + 1 + 1 + 1, ?_⟩
  have hcut : 0 ≤ cut ∧ cut ≤ 255 := bounds_u8 h6
  have htrue : wristbandlaw12_FrameBack.j0 (300 + 1 + 1 + 1 + 1) l cut more true a b c t a' b' c' t' = some true := by simp only [wristbandlaw12_FrameBack.j0]; rw [if_pos trivial]
  unfold wristbandlaw12_FrameBack.f
  rw [awake12_at _ (by omega)]
  simp only [Option.bind_some, if_true]
  by_cases c1 : (t.length : Int) > 3000
  · rw [if_pos c1]; exact htrue
  · rw [if_neg c1]
    by_cases c2 : (t'.length : Int) > 3000
    · rw [if_pos c2]; exact htrue
    · rw [if_neg c2]
      by_cases c3 : (l.length : Int) > 3000
      · rw [if_pos c3]; exact htrue
      · rw [if_neg c3]
        by_cases c4 : (more.length : Int) > 300
        · rw [decide_eq_true c4]; exact htrue
        · rw [decide_eq_false c4]
          exact FrameBack_j0 300 l cut more a b c t a' b' c' t' hcut (bytes_of hl) (by omega) (bytes_of hm) (by omega) (fun x hx => bounds_u8 (hbt x hx)) (fun x hx => bounds_u8 (hbt' x hx)) (by omega) (by omega) (u64_of h0) (u64_of h1) (u64_of h2) (u64_of h3) (u64_of h4) (u64_of h5) (by omega)

end Go.Proofs.Ytnpkhkhlofkbhaa.Pure
