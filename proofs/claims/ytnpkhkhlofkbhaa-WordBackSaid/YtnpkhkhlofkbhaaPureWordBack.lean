/- WordBack: for every input the law answers true: numbers and words are read back from their bytes as they were; unlike numbers have unlike least bytes, the lesser one no more of them. No condition. -/
import Derived.Test.YtnpkhkhlofkbhaaPWordBackx3
import Derived.OpenShut
set_option linter.unusedVariables false
set_option linter.unusedSimpArgs false
namespace Go.Proofs.Ytnpkhkhlofkbhaa.Pure
open Go.RowKit Go.Proofs.Ytnpkhkhlofkbhaa.PWordBack Go.Proofs.YtnpkhkhlofkbhaaW.PrintWords Go.Proofs.YtnpkhkhlofkbhaaW.PrintLast Go.Proofs.YtnpkhkhlofkbhaaW.PrintMore

theorem wrap64_id {n : Int} (h0 : -9223372036854775808 ≤ n) (h1 : n ≤ 9223372036854775807) : wrap64 n = n := by unfold wrap64; omega
theorem ex_succ {k n : Nat} (h : n < k) : ∃ m, k = m + 1 := ⟨k - 1, by omega⟩
def Bytes (l : List Int) : Prop := ∀ x ∈ l, 0 ≤ x ∧ x ≤ 255
theorem bytes_of {l : List Int} (h : ∀ x ∈ l, (Lit.int .u8 x).wf = true) : Bytes l := fun x hx => bounds_u8 (h x hx)
theorem rd_at {l : List Int} (i : Nat) (h : i < l.length) : rd l (i : Int) = l[i] := by
  unfold rd
  simp [List.getD_eq_getElem?_getD, List.getElem?_eq_getElem h]
theorem rd_bytes {l : List Int} (h : Bytes l) (i : Int) : 0 ≤ rd l i ∧ rd l i ≤ 255 := by
  unfold rd
  rw [List.getD_eq_getElem?_getD]
  rcases Nat.lt_or_ge i.toNat l.length with hl | hl
  · rw [List.getElem?_eq_getElem hl]; exact h _ (List.getElem_mem hl)
  · rw [List.getElem?_eq_none hl]; simp
theorem Bytes.take {l : List Int} (h : Bytes l) (n : Nat) : Bytes (l.take n) := fun x hx => h x (List.mem_of_mem_take hx)
theorem Bytes.drop {l : List Int} (h : Bytes l) (n : Nat) : Bytes (l.drop n) := fun x hx => h x (List.mem_of_mem_drop hx)
theorem Bytes.cons {a : Int} {l : List Int} (h : Bytes (a :: l)) : (0 ≤ a ∧ a ≤ 255) ∧ Bytes l := ⟨h a (by simp), fun x hx => h x (by simp [hx])⟩
theorem u64w (n : Int) : IntKind.u64.wrap n = n % 18446744073709551616 := by simp [IntKind.wrap, IntKind.bits, IntKind.signed]
theorem wraps_u64 (n : Int) (h₀ : 0 ≤ n) (h₁ : n < 2 ^ 64) : IntKind.u64.wrap n = n := by rw [u64w]; omega
theorem wraps_u32 (n : Int) (h₀ : 0 ≤ n) (h₁ : n < 2 ^ 32) : IntKind.u32.wrap n = n := by rw [IntKind.wrap_u32]; omega
theorem tmod_nn {a b : Int} (h : 0 ≤ a) : Int.tmod a b = a % b := Int.tmod_eq_emod_of_nonneg h
theorem tdiv_nn {a b : Int} (h : 0 ≤ a) : Int.tdiv a b = a / b := Int.tdiv_eq_ediv_of_nonneg h
theorem u32_mask31 (x : Int) (h0 : 0 ≤ x) (h1 : x < 4294967296) : Go.bits .and .u32 x 2147483647 = x % 2147483648 :=
  bits_mask .u32 32 (by decide) wraps_u32 31 (by decide) x h0 h1
/-! numbers of bytes -/
def vs (v x : Int) : Int := (v * 256) % 18446744073709551616 + x
def val (l : List Int) : Int := l.foldl vs 0
theorem or_step (v x : Int) (h0 : 0 ≤ x) (h1 : x ≤ 255) : Go.bits .or .u64 (IntKind.u64.wrap (v * 256)) (IntKind.u64.wrap x) = vs v x := by
  rw [u64w, u64w, show x % 18446744073709551616 = x by omega]
  exact bits_join .u64 64 (by decide) wraps_u64 8 _ x (by omega) (by omega) (by omega) h0 (by omega) (by omega)
theorem add_step (v x : Int) (h0 : 0 ≤ x) (h1 : x ≤ 255) : IntKind.u64.wrap (IntKind.u64.wrap (256 * v) + IntKind.u64.wrap x) = vs v x := by
  rw [u64w, u64w, u64w]; unfold vs; omega
theorem vs_range (v x : Int) (h0 : 0 ≤ x) (h1 : x ≤ 255) : 0 ≤ vs v x ∧ vs v x < 18446744073709551616 := by unfold vs; omega
theorem foldl_range : ∀ (l : List Int) (v : Int), Bytes l → 0 ≤ v → v < 18446744073709551616 → 0 ≤ l.foldl vs v ∧ l.foldl vs v < 18446744073709551616
  | [], v, _, h0, h1 => ⟨h0, h1⟩
  | a :: l, v, hb, _, _ => by
    have h := vs_range v a hb.cons.1.1 hb.cons.1.2
    exact foldl_range l _ hb.cons.2 h.1 h.2
theorem val_range {l : List Int} (hb : Bytes l) : 0 ≤ val l ∧ val l < 18446744073709551616 := foldl_range l 0 hb (by omega) (by omega)
theorem value_l0 (l : List Int) (hb : Bytes l) (hl : l.length ≤ 9223372036854775806) : ∀ (d k : Nat) (v : Int) (i : Nat), i + d = l.length → d < k → word_value.l0 k v l (l.length : Int) (i : Int) = some ((l.drop i).foldl vs v) := by
  intro d
  induction d with
  | zero =>
    intro k v i hi hk
    obtain ⟨k, rfl⟩ := ex_succ hk
    simp only [word_value.l0]
    rw [if_neg (by omega), List.drop_eq_nil_of_le (by omega)]; rfl
  | succ d ih =>
    intro k v i hi hk
    obtain ⟨k, rfl⟩ := ex_succ hk
    have hlt : i < l.length := by omega
    simp only [word_value.l0]
    rw [if_pos (by omega), if_pos (by omega), if_pos (by omega), or_step _ _ (rd_bytes hb _).1 (rd_bytes hb _).2, wrap64_id (by omega) (by omega), show ((i : Int) + 1) = ((i + 1 : Nat) : Int) by omega, ih k _ (i + 1) (by omega) (by omega), rd_at i hlt, List.drop_eq_getElem_cons hlt]
    rfl
theorem value_f (l : List Int) (hb : Bytes l) (hl : l.length ≤ 9223372036854775806) (k : Nat) (hk : l.length < k) : word_value.f k l = some (val l) := by
  unfold word_value.f
  rw [show (0 : Int) = ((0 : Nat) : Int) from rfl, value_l0 l hb hl l.length k _ 0 (by omega) hk]; rfl
/-! words -/
def wordsOf : List Int → List Int
  | a :: b :: c :: d :: t => (val [a, b, c, d] % 4294967296) :: wordsOf t
  | _ => []
theorem words_l0 : ∀ (n : Nat) (l : List Int), l.length ≤ n → Bytes l → ∀ (k : Nat) (out : List Int), l.length + 6 ≤ k → out.length + l.length / 4 < 35184372088832 → word_Words.l0 k l out = some (out ++ wordsOf l) := by
  intro n
  induction n with
  | zero =>
    intro l hn hb k out hk ho
    obtain ⟨k, rfl⟩ := ex_succ (show 0 < k by omega)
    obtain rfl : l = [] := List.eq_nil_of_length_eq_zero (by omega)
    simp [word_Words.l0, wordsOf]
  | succ n ih =>
    intro l hn hb k out hk ho
    obtain ⟨k, rfl⟩ := ex_succ (show 0 < k by omega)
    by_cases h4 : 4 ≤ l.length
    · match l, h4, hb, hn, hk, ho with
      | a :: b :: c :: d :: t, h4, hb, hn, hk, ho =>
        simp only [List.length_cons] at hn hk ho
        have hbt : Bytes t := hb.cons.2.cons.2.cons.2.cons.2
        have hb4 : Bytes [a, b, c, d] := hb.take 4
        simp only [word_Words.l0]
        rw [if_pos (by simp only [List.length_cons]; omega), if_pos (by simp only [List.length_cons]; omega), show (a :: b :: c :: d :: t).take 4 = [a, b, c, d] from rfl, value_f _ hb4 (by simp) k (by simp only [List.length_cons, List.length_nil]; omega)]
        simp only [Option.bind_some]
        rw [if_pos (by omega), show (a :: b :: c :: d :: t).drop 4 = t from rfl, ih t (by omega) hbt k _ (by omega) (by simp only [List.length_append, List.length_cons, List.length_nil]; omega)]
        simp [wordsOf]
    · have hw : wordsOf l = [] := by
        match l, h4 with
        | [], _ => rfl
        | [_], _ => rfl
        | [_, _], _ => rfl
        | [_, _, _], _ => rfl
        | _ :: _ :: _ :: _ :: t, h => simp at h
      simp only [word_Words.l0]
      rw [if_neg (by omega), hw, List.append_nil]
theorem words_f (l : List Int) (hb : Bytes l) (k : Nat) (hk : l.length + 6 ≤ k) (hl : l.length / 4 < 35184372088832) : word_Words.f k l = some (wordsOf l) := by
  unfold word_Words.f
  rw [words_l0 l.length l (Nat.le_refl _) hb k [] hk (by simpa using hl)]; simp
/-! strings of bytes -/
theorem toList_loop (b : ByteArray) : ∀ (d i : Nat) (r : List UInt8), i + d = b.size → ByteArray.toList.loop b i r = r.reverse ++ b.data.toList.drop i := by
  intro d
  induction d with
  | zero =>
    intro i r h
    rw [ByteArray.toList.loop, if_neg (by omega), List.drop_eq_nil_of_le (by rw [Array.length_toList]; show b.size ≤ i; omega), List.append_nil]
  | succ d ih =>
    intro i r h
    have hlt : i < b.size := by omega
    have hl : i < b.data.toList.length := by rw [Array.length_toList]; exact hlt
    have hg : b.get! i = b.data.toList[i] := by
      show b.data[i]! = _
      rw [getElem!_pos b.data i hlt, Array.getElem_toList]
    rw [ByteArray.toList.loop, if_pos hlt, ih (i + 1) _ (by omega), List.drop_eq_getElem_cons hl, hg]
    simp
theorem toList_data (b : ByteArray) : b.toList = b.data.toList := by
  unfold ByteArray.toList
  rw [toList_loop b b.size 0 [] (by omega)]
  simp
theorem str_toList (xs : List Int) : (strOfNums xs).toList = xs.map fun n => UInt8.ofNat n.toNat := by
  rw [toList_data]; simp [strOfNums]
theorem ofNat_inj (a b : Int) (ha : 0 ≤ a ∧ a ≤ 255) (hb : 0 ≤ b ∧ b ≤ 255) (h : UInt8.ofNat a.toNat = UInt8.ofNat b.toNat) : a = b := by
  have h2 := congrArg UInt8.toNat h
  simp only [UInt8.toNat_ofNat'] at h2
  omega
theorem map_inj : ∀ (xs ys : List Int), Bytes xs → Bytes ys → (xs.map fun n => UInt8.ofNat n.toNat) = (ys.map fun n => UInt8.ofNat n.toNat) → xs = ys
  | [], [], _, _, _ => rfl
  | [], _ :: _, _, _, h => by simp at h
  | _ :: _, [], _, _, h => by simp at h
  | x :: xs, y :: ys, hx, hy, h => by
    simp only [List.map_cons, List.cons.injEq] at h
    rw [ofNat_inj x y hx.cons.1 hy.cons.1 h.1, map_inj xs ys hx.cons.2 hy.cons.2 h.2]
theorem str_inj (xs ys : List Int) (hx : Bytes xs) (hy : Bytes ys) : (strOfNums xs).toList = (strOfNums ys).toList ↔ xs = ys := by
  rw [str_toList, str_toList]
  exact ⟨map_inj xs ys hx hy, fun h => by rw [h]⟩
theorem str_beq (xs ys : List Int) (hx : Bytes xs) (hy : Bytes ys) : ((strOfNums xs).toList == (strOfNums ys).toList) = decide (xs = ys) := by
  by_cases h : xs = ys
  · subst h; simp
  · rw [decide_eq_false h, beq_eq_false_iff_ne]
    exact fun h2 => h ((str_inj xs ys hx hy).1 h2)
theorem str_size (xs : List Int) : (strOfNums xs).size = xs.length := by
  show (strOfNums xs).data.size = _
  simp [strOfNums]
theorem str_append (xs ys : List Int) : strOfNums (xs ++ ys) = strOfNums xs ++ strOfNums ys := by
  apply ByteArray.ext
  simp [strOfNums]
theorem str_bt (xs : List Int) (hx : Bytes xs) (i : Nat) (h : i < xs.length) : bt (strOfNums xs) (i : Int) = xs[i] := by
  have hs : i < (strOfNums xs).size := by rw [str_size]; exact h
  have hr := hx xs[i] (List.getElem_mem h)
  unfold bt
  simp only [Int.toNat_natCast]
  rw [dif_pos hs, ByteArray.getElem_eq_getElem_data]
  simp only [strOfNums, List.getElem_toArray, List.getElem_map, UInt8.toNat_ofNat']
  omega
theorem str_extract (xs : List Int) (i : Nat) : (strOfNums xs).extract i (strOfNums xs).size = strOfNums (xs.drop i) := by
  apply ByteArray.ext
  rw [ByteArray.data_extract]
  show ((strOfNums xs).data.extract i (strOfNums xs).data.size) = _
  simp [strOfNums, List.map_drop]
  exact List.take_of_length_le (by simp)
/-! WordRight: what the other hand computes -/
theorem refSame_l0 (l : List Int) (hl : l.length ≤ 9223372036854775806) : ∀ (d k : Nat) (i : Nat), i + d = l.length → d < k → wristbandref01_Same.l0 k l l (i : Int) = some true := by
  intro d
  induction d with
  | zero =>
    intro k i hi hk
    obtain ⟨k, rfl⟩ := ex_succ hk
    simp only [wristbandref01_Same.l0]
    rw [if_neg (by omega)]
  | succ d ih =>
    intro k i hi hk
    obtain ⟨k, rfl⟩ := ex_succ hk
    simp only [wristbandref01_Same.l0]
    rw [if_pos (by omega), if_pos (by omega), if_pos (by omega), if_true, wrap64_id (by omega) (by omega), show ((i : Int) + 1) = ((i + 1 : Nat) : Int) by omega]
    exact ih k (i + 1) (by omega) (by omega)
theorem refSame_f (l : List Int) (hl : l.length ≤ 9223372036854775806) (k : Nat) (hk : l.length < k) : wristbandref01_Same.f k l l = some true := by
  unfold wristbandref01_Same.f
  rw [if_pos rfl]
  exact refSame_l0 l hl l.length k 0 (by omega) hk
theorem wordsOf_len : ∀ (n : Nat) (l : List Int), l.length ≤ n → (wordsOf l).length ≤ l.length
  | 0, l, h => by obtain rfl : l = [] := List.eq_nil_of_length_eq_zero (by omega); simp [wordsOf]
  | n + 1, [], _ => by simp [wordsOf]
  | n + 1, [_], _ => by simp [wordsOf]
  | n + 1, [_, _], _ => by simp [wordsOf]
  | n + 1, [_, _, _], _ => by simp [wordsOf]
  | n + 1, a :: b :: c :: d :: t, h => by
    have := wordsOf_len n t (by simp only [List.length_cons] at h; omega)
    simp only [wordsOf, List.length_cons]; omega
theorem wordsOf_short (l : List Int) (h : l.length < 4) : wordsOf l = [] := by
  match l, h with
  | [], _ => rfl
  | [_], _ => rfl
  | [_, _], _ => rfl
  | [_, _, _], _ => rfl
  | _ :: _ :: _ :: _ :: t, h => simp only [List.length_cons] at h; omega
/-! bytes of words -/
def word4b (x : Int) : List Int := [(x / 16777216) % 256, (x / 65536) % 256, (x / 256) % 256, x % 256]
def bytesOf : List Int → List Int
  | [] => []
  | a :: t => word4b a ++ bytesOf t
theorem word4b_bytes (x : Int) : Bytes (word4b x) := by
  intro y hy
  simp only [word4b, List.mem_cons, List.not_mem_nil, or_false] at hy
  omega
theorem bytesOf_bytes : ∀ l : List Int, Bytes (bytesOf l)
  | [] => fun _ h => by simp [bytesOf] at h
  | a :: t => fun x h => by
    simp only [bytesOf, List.mem_append] at h
    rcases h with h | h
    · exact word4b_bytes a x h
    · exact bytesOf_bytes t x h
def Words (l : List Int) : Prop := ∀ x ∈ l, 0 ≤ x ∧ x < 4294967296
theorem rd_words {l : List Int} (h : Words l) (i : Nat) (hi : i < l.length) : 0 ≤ rd l (i : Int) ∧ rd l (i : Int) < 4294967296 := by
  rw [rd_at i hi]; exact h _ (List.getElem_mem hi)
theorem drop_rd (l : List Int) (i : Nat) (h : i < l.length) : l.drop i = rd l (i : Int) :: l.drop (i + 1) := by
  rw [rd_at i h, List.drop_eq_getElem_cons h]
theorem bytes_l0 (l : List Int) (hl : l.length ≤ 35184372087808) : ∀ (d k : Nat) (out : List Int) (i : Nat), i + d = l.length → d < k → out.length + 4 * d < 140737488355328 → word_Bytes.l0 k out l (l.length : Int) (i : Int) = some (out ++ bytesOf (l.drop i)) := by
  intro d
  induction d with
  | zero =>
    intro k out i hi hk ho
    obtain ⟨k, rfl⟩ := ex_succ hk
    simp only [word_Bytes.l0]
    rw [if_neg (by omega), List.drop_eq_nil_of_le (by omega)]; simp [bytesOf]
  | succ d ih =>
    intro k out i hi hk ho
    obtain ⟨k, rfl⟩ := ex_succ hk
    have hw1 : wrap64 ((i : Int) + 1) = ((i + 1 : Nat) : Int) := by rw [wrap64_id (by omega) (by omega)]; omega
    simp only [word_Bytes.l0, hw1, Option.bind_some]
    clear hw1
    rw [if_pos (by omega), if_pos (by omega), if_pos (by omega), if_pos (by simp only [List.length_cons, List.length_nil]; omega), ih k _ (i + 1) (by omega) (by omega) (by simp only [List.length_append, List.length_cons, List.length_nil]; omega), drop_rd l i (by omega)]
    simp [bytesOf, word4b]
theorem bytes_f (l : List Int) (hl : l.length ≤ 35184372087808) (k : Nat) (hk : l.length < k) : word_Bytes.f k l = some (bytesOf l) := by
  unfold word_Bytes.f
  rw [show (0 : Int) = ((0 : Nat) : Int) from rfl, bytes_l0 l hl l.length k [] 0 (by omega) hk (by simp only [List.length_nil]; omega)]; simp
/-! a number's eight bytes -/
def p8 (x : Int) : List Int := [x / 72057594037927936 % 256, x / 281474976710656 % 256, x / 1099511627776 % 256, x / 4294967296 % 256, x / 16777216 % 256, x / 65536 % 256, x / 256 % 256, x % 256]
def U64 (x : Int) : Prop := 0 ≤ x ∧ x < 18446744073709551616
theorem p8_bytes (x : Int) : Bytes (p8 x) := by
  intro y hy
  simp only [p8, List.mem_cons, List.not_mem_nil, or_false] at hy
  omega
theorem put_f (x : Int) (h : U64 x) (k : Nat) (hk : 2 < k) : word_Put.f k x = some (p8 x) := by
  unfold U64 at h
  unfold word_Put.f
  rw [bytes_f _ (by simp) k (by simpa using hk)]
  simp only [Option.bind_some, bytesOf, word4b, List.cons_append, List.nil_append, List.append_nil, p8]
  rw [show x / 4294967296 % 4294967296 / 16777216 % 256 = x / 72057594037927936 % 256 by omega, show x / 4294967296 % 4294967296 / 65536 % 256 = x / 281474976710656 % 256 by omega, show x / 4294967296 % 4294967296 / 256 % 256 = x / 1099511627776 % 256 by omega, show x / 4294967296 % 4294967296 % 256 = x / 4294967296 % 256 by omega, show x % 4294967296 / 16777216 % 256 = x / 16777216 % 256 by omega, show x % 4294967296 / 65536 % 256 = x / 65536 % 256 by omega, show x % 4294967296 / 256 % 256 = x / 256 % 256 by omega, show x % 4294967296 % 256 = x % 256 by omega]
/-! the least bytes of a number -/
theorem lt_bitLen : ∀ (k x : Nat), x < 2 ^ 64 → 2 ^ k ≤ x → k < Lib.bitLen x
  | 0, x, h, h1 => by
    rw [Lib.bitLen_half x (by simp at h1; omega) h]; omega
  | k + 1, x, h, h1 => by
    have h2 : 2 ^ (k + 1) = 2 * 2 ^ k := by rw [Nat.pow_succ]; omega
    have h3 : 0 < 2 ^ k := Nat.two_pow_pos k
    have := lt_bitLen k (x / 2) (by omega) (by omega)
    rw [Lib.bitLen_half x (by omega) h]; omega
theorem m_cases (x : Int) (h : U64 x) : ∃ m : Nat, m ≤ 8 ∧ x < 256 ^ m ∧ (m = 0 ∨ 256 ^ (m - 1) ≤ x) := by
  unfold U64 at h
  rcases (show x < 1 ∨ (1 ≤ x ∧ x < 256) ∨ (256 ≤ x ∧ x < 65536) ∨ (65536 ≤ x ∧ x < 16777216) ∨ (16777216 ≤ x ∧ x < 4294967296) ∨ (4294967296 ≤ x ∧ x < 1099511627776) ∨ (1099511627776 ≤ x ∧ x < 281474976710656) ∨ (281474976710656 ≤ x ∧ x < 72057594037927936) ∨ (72057594037927936 ≤ x ∧ x < 18446744073709551616) by omega) with c | c | c | c | c | c | c | c | c
  · exact ⟨0, by omega, by simp only [Int.reducePow]; omega, Or.inl rfl⟩
  · exact ⟨1, by omega, by simp only [Int.reducePow]; omega, Or.inr (by simp only [Nat.reduceSub, Int.reducePow]; omega)⟩
  · exact ⟨2, by omega, by simp only [Int.reducePow]; omega, Or.inr (by simp only [Nat.reduceSub, Int.reducePow]; omega)⟩
  · exact ⟨3, by omega, by simp only [Int.reducePow]; omega, Or.inr (by simp only [Nat.reduceSub, Int.reducePow]; omega)⟩
  · exact ⟨4, by omega, by simp only [Int.reducePow]; omega, Or.inr (by simp only [Nat.reduceSub, Int.reducePow]; omega)⟩
  · exact ⟨5, by omega, by simp only [Int.reducePow]; omega, Or.inr (by simp only [Nat.reduceSub, Int.reducePow]; omega)⟩
  · exact ⟨6, by omega, by simp only [Int.reducePow]; omega, Or.inr (by simp only [Nat.reduceSub, Int.reducePow]; omega)⟩
  · exact ⟨7, by omega, by simp only [Int.reducePow]; omega, Or.inr (by simp only [Nat.reduceSub, Int.reducePow]; omega)⟩
  · exact ⟨8, by omega, by simp only [Int.reducePow]; omega, Or.inr (by simp only [Nat.reduceSub, Int.reducePow]; omega)⟩
theorem bitLen_m (x : Int) (h : U64 x) (m : Nat) (hm : m ≤ 8) (h1 : x < 256 ^ m) (h2 : m = 0 ∨ 256 ^ (m - 1) ≤ x) : (Lib.bitLen x.toNat + 7) / 8 = m := by
  unfold U64 at h
  have hup : Lib.bitLen x.toNat ≤ 8 * m := by
    refine Lib.bitLen_le _ _ (by omega) ?_
    rcases (show m = 0 ∨ m = 1 ∨ m = 2 ∨ m = 3 ∨ m = 4 ∨ m = 5 ∨ m = 6 ∨ m = 7 ∨ m = 8 by omega) with rfl | rfl | rfl | rfl | rfl | rfl | rfl | rfl | rfl <;> (simp only [Int.reducePow, Nat.reduceMul, Nat.reducePow] at h1 ⊢; omega)
  rcases h2 with rfl | h2
  · omega
  · have hlo : 8 * (m - 1) < Lib.bitLen x.toNat ∨ m = 0 := by
      rcases (show m = 0 ∨ m = 1 ∨ m = 2 ∨ m = 3 ∨ m = 4 ∨ m = 5 ∨ m = 6 ∨ m = 7 ∨ m = 8 by omega) with rfl | rfl | rfl | rfl | rfl | rfl | rfl | rfl | rfl
      · exact Or.inr rfl
      all_goals exact Or.inl (lt_bitLen _ _ (by omega) (by simp only [Int.reducePow, Nat.reduceSub, Nat.reduceMul, Nat.reducePow] at h2 ⊢; omega))
    omega
theorem cut_eq (b m : Nat) (hb : (b + 7) / 8 = m) (hm : m ≤ 8) (hL : b ≤ 64) : wrap64 (8 - (wrap64 (Int.tdiv (wrap64 ((b : Int) + 7)) 8))) = ((8 - m : Nat) : Int) := by
  rw [wrap64_id (show -9223372036854775808 ≤ (b : Int) + 7 by omega) (by omega), tdiv_nn (show (0 : Int) ≤ (b : Int) + 7 by omega), wrap64_id (show -9223372036854775808 ≤ ((b : Int) + 7) / 8 by omega) (by omega), wrap64_id (by omega) (by omega)]
  omega
theorem len_f (x : Int) (h : U64 x) : bits_Len64.f x = some ((Lib.bitLen x.toNat : Nat) : Int) := by
  unfold U64 at h
  unfold bits_Len64.f
  rw [if_pos h.1, if_pos (by omega)]
theorem clone_f (l : List Int) (h : l.length < 140737488355328) : slices_Clone_byte_byte.f l = some l := by
  unfold slices_Clone_byte_byte.f
  rw [if_pos h]
theorem p8_len (x : Int) : (p8 x).length = 8 := rfl
theorem least_f (x : Int) (h : U64 x) (k : Nat) (hk : 2 < k) (m : Nat) (hm : m ≤ 8) (h1 : x < 256 ^ m) (h2 : m = 0 ∨ 256 ^ (m - 1) ≤ x) : word_Least.f k x = some ((p8 x).drop (8 - m)) := by
  have hb := bitLen_m x h m hm h1 h2
  have hL : Lib.bitLen x.toNat ≤ 64 := by omega
  clear h1 h2
  unfold word_Least.f
  rw [len_f x h]
  simp only [Option.bind_some]
  rw [cut_eq _ m hb hm hL]
  generalize hq : 8 - m = q
  have hql : q ≤ 8 := by omega
  clear hb hL hq
  rw [put_f x h k hk]
  simp only [Option.bind_some]
  rw [if_pos (by omega), p8_len, if_pos (by omega), Int.toNat_natCast, clone_f _ (by rw [List.length_drop, p8_len]; omega)]
  simp only [Option.bind_some]
/-! the law -/
theorem get_f (l : List Int) (hb : Bytes l) (hl : l.length ≤ 9223372036854775806) (k : Nat) (hk : l.length < k) : word_Get.f k l = some (if (l.length : Int) = 8 then (val l, 0) else (0, 1)) := by
  unfold word_Get.f
  by_cases h : (l.length : Int) = 8
  · rw [if_pos h, if_pos h, value_f l hb hl k hk]; rfl
  · rw [if_neg h, if_neg h]
theorem words_of {l : List Int} (h : ∀ x ∈ l, (Lit.int .u32 x).wf = true) : Words l := fun x hx => by have := bounds_u32 (h x hx); omega
/-! WordBack: numbers and their bytes, back and forth -/
theorem vsL (v x : Int) (h0 : 0 ≤ v) (h1 : v < 72057594037927936) (hx : 0 ≤ x ∧ x ≤ 255) : vs v x = v * 256 + x := by unfold vs; omega
theorem vs00 : vs 0 0 = 0 := by decide
theorem val_zero (l : List Int) : val (0 :: l) = val l := by simp only [val, List.foldl, vs00]
theorem val1 (a : Int) (ha : 0 ≤ a ∧ a ≤ 255) : val [a] = (0 * 256 + a) := by
  simp only [val, List.foldl]
  rw [vsL (0) a (by omega) (by omega) ha]
theorem val2 (a b : Int) (ha : 0 ≤ a ∧ a ≤ 255) (hb : 0 ≤ b ∧ b ≤ 255) : val [a, b] = ((0 * 256 + a) * 256 + b) := by
  simp only [val, List.foldl]
  rw [vsL (0) a (by omega) (by omega) ha, vsL ((0 * 256 + a)) b (by omega) (by omega) hb]
theorem val3 (a b c : Int) (ha : 0 ≤ a ∧ a ≤ 255) (hb : 0 ≤ b ∧ b ≤ 255) (hc : 0 ≤ c ∧ c ≤ 255) : val [a, b, c] = (((0 * 256 + a) * 256 + b) * 256 + c) := by
  simp only [val, List.foldl]
  rw [vsL (0) a (by omega) (by omega) ha, vsL ((0 * 256 + a)) b (by omega) (by omega) hb, vsL (((0 * 256 + a) * 256 + b)) c (by omega) (by omega) hc]
theorem val4 (a b c d : Int) (ha : 0 ≤ a ∧ a ≤ 255) (hb : 0 ≤ b ∧ b ≤ 255) (hc : 0 ≤ c ∧ c ≤ 255) (hd : 0 ≤ d ∧ d ≤ 255) : val [a, b, c, d] = ((((0 * 256 + a) * 256 + b) * 256 + c) * 256 + d) := by
  simp only [val, List.foldl]
  rw [vsL (0) a (by omega) (by omega) ha, vsL ((0 * 256 + a)) b (by omega) (by omega) hb, vsL (((0 * 256 + a) * 256 + b)) c (by omega) (by omega) hc, vsL ((((0 * 256 + a) * 256 + b) * 256 + c)) d (by omega) (by omega) hd]
theorem val5 (a b c d e : Int) (ha : 0 ≤ a ∧ a ≤ 255) (hb : 0 ≤ b ∧ b ≤ 255) (hc : 0 ≤ c ∧ c ≤ 255) (hd : 0 ≤ d ∧ d ≤ 255) (he : 0 ≤ e ∧ e ≤ 255) : val [a, b, c, d, e] = (((((0 * 256 + a) * 256 + b) * 256 + c) * 256 + d) * 256 + e) := by
  simp only [val, List.foldl]
  rw [vsL (0) a (by omega) (by omega) ha, vsL ((0 * 256 + a)) b (by omega) (by omega) hb, vsL (((0 * 256 + a) * 256 + b)) c (by omega) (by omega) hc, vsL ((((0 * 256 + a) * 256 + b) * 256 + c)) d (by omega) (by omega) hd, vsL (((((0 * 256 + a) * 256 + b) * 256 + c) * 256 + d)) e (by omega) (by omega) he]
theorem val6 (a b c d e f : Int) (ha : 0 ≤ a ∧ a ≤ 255) (hb : 0 ≤ b ∧ b ≤ 255) (hc : 0 ≤ c ∧ c ≤ 255) (hd : 0 ≤ d ∧ d ≤ 255) (he : 0 ≤ e ∧ e ≤ 255) (hf : 0 ≤ f ∧ f ≤ 255) : val [a, b, c, d, e, f] = ((((((0 * 256 + a) * 256 + b) * 256 + c) * 256 + d) * 256 + e) * 256 + f) := by
  simp only [val, List.foldl]
  rw [vsL (0) a (by omega) (by omega) ha, vsL ((0 * 256 + a)) b (by omega) (by omega) hb, vsL (((0 * 256 + a) * 256 + b)) c (by omega) (by omega) hc, vsL ((((0 * 256 + a) * 256 + b) * 256 + c)) d (by omega) (by omega) hd, vsL (((((0 * 256 + a) * 256 + b) * 256 + c) * 256 + d)) e (by omega) (by omega) he, vsL ((((((0 * 256 + a) * 256 + b) * 256 + c) * 256 + d) * 256 + e)) f (by omega) (by omega) hf]
theorem val7 (a b c d e f g : Int) (ha : 0 ≤ a ∧ a ≤ 255) (hb : 0 ≤ b ∧ b ≤ 255) (hc : 0 ≤ c ∧ c ≤ 255) (hd : 0 ≤ d ∧ d ≤ 255) (he : 0 ≤ e ∧ e ≤ 255) (hf : 0 ≤ f ∧ f ≤ 255) (hg : 0 ≤ g ∧ g ≤ 255) : val [a, b, c, d, e, f, g] = (((((((0 * 256 + a) * 256 + b) * 256 + c) * 256 + d) * 256 + e) * 256 + f) * 256 + g) := by
  simp only [val, List.foldl]
  rw [vsL (0) a (by omega) (by omega) ha, vsL ((0 * 256 + a)) b (by omega) (by omega) hb, vsL (((0 * 256 + a) * 256 + b)) c (by omega) (by omega) hc, vsL ((((0 * 256 + a) * 256 + b) * 256 + c)) d (by omega) (by omega) hd, vsL (((((0 * 256 + a) * 256 + b) * 256 + c) * 256 + d)) e (by omega) (by omega) he, vsL ((((((0 * 256 + a) * 256 + b) * 256 + c) * 256 + d) * 256 + e)) f (by omega) (by omega) hf, vsL (((((((0 * 256 + a) * 256 + b) * 256 + c) * 256 + d) * 256 + e) * 256 + f)) g (by omega) (by omega) hg]
theorem val8 (a b c d e f g h : Int) (ha : 0 ≤ a ∧ a ≤ 255) (hb : 0 ≤ b ∧ b ≤ 255) (hc : 0 ≤ c ∧ c ≤ 255) (hd : 0 ≤ d ∧ d ≤ 255) (he : 0 ≤ e ∧ e ≤ 255) (hf : 0 ≤ f ∧ f ≤ 255) (hg : 0 ≤ g ∧ g ≤ 255) (hh : 0 ≤ h ∧ h ≤ 255) : val [a, b, c, d, e, f, g, h] = ((((((((0 * 256 + a) * 256 + b) * 256 + c) * 256 + d) * 256 + e) * 256 + f) * 256 + g) * 256 + h) := by
  simp only [val, List.foldl]
  rw [vsL (0) a (by omega) (by omega) ha, vsL ((0 * 256 + a)) b (by omega) (by omega) hb, vsL (((0 * 256 + a) * 256 + b)) c (by omega) (by omega) hc, vsL ((((0 * 256 + a) * 256 + b) * 256 + c)) d (by omega) (by omega) hd, vsL (((((0 * 256 + a) * 256 + b) * 256 + c) * 256 + d)) e (by omega) (by omega) he, vsL ((((((0 * 256 + a) * 256 + b) * 256 + c) * 256 + d) * 256 + e)) f (by omega) (by omega) hf, vsL (((((((0 * 256 + a) * 256 + b) * 256 + c) * 256 + d) * 256 + e) * 256 + f)) g (by omega) (by omega) hg, vsL ((((((((0 * 256 + a) * 256 + b) * 256 + c) * 256 + d) * 256 + e) * 256 + f) * 256 + g)) h (by omega) (by omega) hh]
theorem val_p8 (x : Int) (h : U64 x) : val (p8 x) = x := by
  have hb := p8_bytes x
  unfold p8 at *
  have m : ∀ y : Int, 0 ≤ y % 256 ∧ y % 256 ≤ 255 := fun y => by omega
  rw [val8 _ _ _ _ _ _ _ _ (m _) (m _) (m _) (m _) (m _) (m _) (m _) (m _)]
  unfold U64 at h
  rw [show x / 65536 = x / 256 / 256 by omega, show x / 16777216 = x / 256 / 256 / 256 by omega, show x / 4294967296 = x / 256 / 256 / 256 / 256 by omega, show x / 1099511627776 = x / 256 / 256 / 256 / 256 / 256 by omega, show x / 281474976710656 = x / 256 / 256 / 256 / 256 / 256 / 256 by omega, show x / 72057594037927936 = x / 256 / 256 / 256 / 256 / 256 / 256 / 256 by omega]
  have s : ∀ y : Int, y = 256 * (y / 256) + y % 256 := fun y => by omega
  have t : x / 256 / 256 / 256 / 256 / 256 / 256 / 256 < 256 ∧ 0 ≤ x / 256 / 256 / 256 / 256 / 256 / 256 / 256 := by omega
  have s0 := s x
  have s1 := s (x / 256)
  have s2 := s (x / 256 / 256)
  have s3 := s (x / 256 / 256 / 256)
  have s4 := s (x / 256 / 256 / 256 / 256)
  have s5 := s (x / 256 / 256 / 256 / 256 / 256)
  have s6 := s (x / 256 / 256 / 256 / 256 / 256 / 256)
  have s7 : x / 256 / 256 / 256 / 256 / 256 / 256 / 256 % 256 = x / 256 / 256 / 256 / 256 / 256 / 256 / 256 := by omega
  rw [s7]
  clear s7 m s hb
  generalize x / 256 / 256 / 256 / 256 / 256 / 256 / 256 = y7 at *
  generalize x / 256 / 256 / 256 / 256 / 256 / 256 % 256 = r6 at *
  generalize x / 256 / 256 / 256 / 256 / 256 / 256 = y6 at *
  generalize x / 256 / 256 / 256 / 256 / 256 % 256 = r5 at *
  generalize x / 256 / 256 / 256 / 256 / 256 = y5 at *
  generalize x / 256 / 256 / 256 / 256 % 256 = r4 at *
  generalize x / 256 / 256 / 256 / 256 = y4 at *
  generalize x / 256 / 256 / 256 % 256 = r3 at *
  generalize x / 256 / 256 / 256 = y3 at *
  generalize x / 256 / 256 % 256 = r2 at *
  generalize x / 256 / 256 = y2 at *
  generalize x / 256 % 256 = r1 at *
  generalize x / 256 = y1 at *
  generalize x % 256 = r0 at *
  omega
theorem val_drop (x : Int) (h : U64 x) (m : Nat) (hm : m ≤ 8) (h1 : x < 256 ^ m) : val ((p8 x).drop (8 - m)) = x := by
  have hv := val_p8 x h
  unfold U64 at h
  unfold p8 at hv ⊢
  rcases (show m = 0 ∨ m = 1 ∨ m = 2 ∨ m = 3 ∨ m = 4 ∨ m = 5 ∨ m = 6 ∨ m = 7 ∨ m = 8 by omega) with rfl | rfl | rfl | rfl | rfl | rfl | rfl | rfl | rfl <;> simp only [Int.reducePow] at h1
  · rw [show x / 72057594037927936 % 256 = 0 by omega, show x / 281474976710656 % 256 = 0 by omega, show x / 1099511627776 % 256 = 0 by omega, show x / 4294967296 % 256 = 0 by omega, show x / 16777216 % 256 = 0 by omega, show x / 65536 % 256 = 0 by omega, show x / 256 % 256 = 0 by omega, show x % 256 = 0 by omega, val_zero, val_zero, val_zero, val_zero, val_zero, val_zero, val_zero, val_zero] at hv; exact hv
  · rw [show x / 72057594037927936 % 256 = 0 by omega, show x / 281474976710656 % 256 = 0 by omega, show x / 1099511627776 % 256 = 0 by omega, show x / 4294967296 % 256 = 0 by omega, show x / 16777216 % 256 = 0 by omega, show x / 65536 % 256 = 0 by omega, show x / 256 % 256 = 0 by omega, val_zero, val_zero, val_zero, val_zero, val_zero, val_zero, val_zero] at hv; exact hv
  · rw [show x / 72057594037927936 % 256 = 0 by omega, show x / 281474976710656 % 256 = 0 by omega, show x / 1099511627776 % 256 = 0 by omega, show x / 4294967296 % 256 = 0 by omega, show x / 16777216 % 256 = 0 by omega, show x / 65536 % 256 = 0 by omega, val_zero, val_zero, val_zero, val_zero, val_zero, val_zero] at hv; exact hv
  · rw [show x / 72057594037927936 % 256 = 0 by omega, show x / 281474976710656 % 256 = 0 by omega, show x / 1099511627776 % 256 = 0 by omega, show x / 4294967296 % 256 = 0 by omega, show x / 16777216 % 256 = 0 by omega, val_zero, val_zero, val_zero, val_zero, val_zero] at hv; exact hv
  · rw [show x / 72057594037927936 % 256 = 0 by omega, show x / 281474976710656 % 256 = 0 by omega, show x / 1099511627776 % 256 = 0 by omega, show x / 4294967296 % 256 = 0 by omega, val_zero, val_zero, val_zero, val_zero] at hv; exact hv
  · rw [show x / 72057594037927936 % 256 = 0 by omega, show x / 281474976710656 % 256 = 0 by omega, show x / 1099511627776 % 256 = 0 by omega, val_zero, val_zero, val_zero] at hv; exact hv
  · rw [show x / 72057594037927936 % 256 = 0 by omega, show x / 281474976710656 % 256 = 0 by omega, val_zero, val_zero] at hv; exact hv
  · rw [show x / 72057594037927936 % 256 = 0 by omega, val_zero] at hv; exact hv
  · exact hv
theorem drop_head (x : Int) (h : U64 x) (m : Nat) (hm : m ≤ 8) (h1 : x < 256 ^ m) (h2 : m = 0 ∨ 256 ^ (m - 1) ≤ x) : m = 0 ∨ rd ((p8 x).drop (8 - m)) 0 ≠ 0 := by
  unfold U64 at h
  unfold p8
  rcases (show m = 0 ∨ m = 1 ∨ m = 2 ∨ m = 3 ∨ m = 4 ∨ m = 5 ∨ m = 6 ∨ m = 7 ∨ m = 8 by omega) with rfl | rfl | rfl | rfl | rfl | rfl | rfl | rfl | rfl <;> simp only [Int.reducePow, Nat.reduceSub] at h1 h2
  · exact Or.inl rfl
  · refine Or.inr ?_
    show x % 256 ≠ 0
    omega
  · refine Or.inr ?_
    show x / 256 % 256 ≠ 0
    omega
  · refine Or.inr ?_
    show x / 65536 % 256 ≠ 0
    omega
  · refine Or.inr ?_
    show x / 16777216 % 256 ≠ 0
    omega
  · refine Or.inr ?_
    show x / 4294967296 % 256 ≠ 0
    omega
  · refine Or.inr ?_
    show x / 1099511627776 % 256 ≠ 0
    omega
  · refine Or.inr ?_
    show x / 281474976710656 % 256 ≠ 0
    omega
  · refine Or.inr ?_
    show x / 72057594037927936 % 256 ≠ 0
    omega
theorem fromLeast_ok (l : List Int) (hb : Bytes l) (hl : l.length ≤ 8) (h0 : l.length = 0 ∨ rd l 0 ≠ 0) (k : Nat) (hk : 8 < k) : word_FromLeast.f k l = some (val l, 0) := by
  unfold word_FromLeast.f
  rw [if_neg (by omega), value_f l hb (by omega) k (by omega)]
  simp only [Option.bind_some]
  by_cases hp : (l.length : Int) > 0
  · rw [if_pos hp, if_pos (by omega), if_neg (h0.elim (fun h => by omega) id)]
  · rw [if_neg hp]
theorem m_mono (x y : Int) (hxy : x ≤ y) (m n : Nat) (hm : m ≤ 8) (hn : n ≤ 8) (h2 : m = 0 ∨ 256 ^ (m - 1) ≤ x) (h1 : y < 256 ^ n) : m ≤ n := by
  rcases h2 with h2 | h2
  · omega
  · rcases (show m = 0 ∨ m = 1 ∨ m = 2 ∨ m = 3 ∨ m = 4 ∨ m = 5 ∨ m = 6 ∨ m = 7 ∨ m = 8 by omega) with rfl | rfl | rfl | rfl | rfl | rfl | rfl | rfl | rfl <;> rcases (show n = 0 ∨ n = 1 ∨ n = 2 ∨ n = 3 ∨ n = 4 ∨ n = 5 ∨ n = 6 ∨ n = 7 ∨ n = 8 by omega) with rfl | rfl | rfl | rfl | rfl | rfl | rfl | rfl | rfl <;> (simp only [Int.reducePow, Nat.reduceSub] at h1 h2; omega)
theorem least_val (l : List Int) (hb : Bytes l) (hl : l.length ≤ 8) (h0 : l.length = 0 ∨ rd l 0 ≠ 0) (k : Nat) (hk : 2 < k) : word_Least.f k (val l) = some l := by
  match l, hb, hl, h0 with
  | [], _, _, _ =>
    rw [show val [] = 0 from rfl, least_f 0 (by unfold U64; omega) k hk 0 (by omega) (by simp only [Int.reducePow]; omega) (Or.inl rfl)]; rfl
  | [a], HB, _, h0 =>
    have ha : 0 ≤ a ∧ a ≤ 255 := HB a (by simp)
    have h0 : a ≠ 0 := h0.elim (fun h => by simp at h) id
    rw [val1 a ha]
    generalize hx : (0 * 256 + a) = x
    have hu : U64 x := by unfold U64; omega
    rw [least_f x hu k hk 1 (by omega) (by simp only [Int.reducePow]; omega) (Or.inr (by simp only [Nat.reduceSub, Int.reducePow]; omega))]
    show some [x % 256] = _
    rw [show x % 256 = a by omega]
  | [a, b], HB, _, h0 =>
    have ha : 0 ≤ a ∧ a ≤ 255 := HB a (by simp)
    have hb : 0 ≤ b ∧ b ≤ 255 := HB b (by simp)
    have h0 : a ≠ 0 := h0.elim (fun h => by simp at h) id
    rw [val2 a b ha hb]
    generalize hx : ((0 * 256 + a) * 256 + b) = x
    have hu : U64 x := by unfold U64; omega
    rw [least_f x hu k hk 2 (by omega) (by simp only [Int.reducePow]; omega) (Or.inr (by simp only [Nat.reduceSub, Int.reducePow]; omega))]
    show some [x / 256 % 256, x % 256] = _
    rw [show x / 256 % 256 = a by omega, show x % 256 = b by omega]
  | [a, b, c], HB, _, h0 =>
    have ha : 0 ≤ a ∧ a ≤ 255 := HB a (by simp)
    have hb : 0 ≤ b ∧ b ≤ 255 := HB b (by simp)
    have hc : 0 ≤ c ∧ c ≤ 255 := HB c (by simp)
    have h0 : a ≠ 0 := h0.elim (fun h => by simp at h) id
    rw [val3 a b c ha hb hc]
    generalize hx : (((0 * 256 + a) * 256 + b) * 256 + c) = x
    have hu : U64 x := by unfold U64; omega
    rw [least_f x hu k hk 3 (by omega) (by simp only [Int.reducePow]; omega) (Or.inr (by simp only [Nat.reduceSub, Int.reducePow]; omega))]
    show some [x / 65536 % 256, x / 256 % 256, x % 256] = _
    rw [show x / 65536 % 256 = a by omega, show x / 256 % 256 = b by omega, show x % 256 = c by omega]
  | [a, b, c, d], HB, _, h0 =>
    have ha : 0 ≤ a ∧ a ≤ 255 := HB a (by simp)
    have hb : 0 ≤ b ∧ b ≤ 255 := HB b (by simp)
    have hc : 0 ≤ c ∧ c ≤ 255 := HB c (by simp)
    have hd : 0 ≤ d ∧ d ≤ 255 := HB d (by simp)
    have h0 : a ≠ 0 := h0.elim (fun h => by simp at h) id
    rw [val4 a b c d ha hb hc hd]
    generalize hx : ((((0 * 256 + a) * 256 + b) * 256 + c) * 256 + d) = x
    have hu : U64 x := by unfold U64; omega
    rw [least_f x hu k hk 4 (by omega) (by simp only [Int.reducePow]; omega) (Or.inr (by simp only [Nat.reduceSub, Int.reducePow]; omega))]
    show some [x / 16777216 % 256, x / 65536 % 256, x / 256 % 256, x % 256] = _
    rw [show x / 16777216 % 256 = a by omega, show x / 65536 % 256 = b by omega, show x / 256 % 256 = c by omega, show x % 256 = d by omega]
  | [a, b, c, d, e], HB, _, h0 =>
    have ha : 0 ≤ a ∧ a ≤ 255 := HB a (by simp)
    have hb : 0 ≤ b ∧ b ≤ 255 := HB b (by simp)
    have hc : 0 ≤ c ∧ c ≤ 255 := HB c (by simp)
    have hd : 0 ≤ d ∧ d ≤ 255 := HB d (by simp)
    have he : 0 ≤ e ∧ e ≤ 255 := HB e (by simp)
    have h0 : a ≠ 0 := h0.elim (fun h => by simp at h) id
    rw [val5 a b c d e ha hb hc hd he]
    generalize hx : (((((0 * 256 + a) * 256 + b) * 256 + c) * 256 + d) * 256 + e) = x
    have hu : U64 x := by unfold U64; omega
    rw [least_f x hu k hk 5 (by omega) (by simp only [Int.reducePow]; omega) (Or.inr (by simp only [Nat.reduceSub, Int.reducePow]; omega))]
    show some [x / 4294967296 % 256, x / 16777216 % 256, x / 65536 % 256, x / 256 % 256, x % 256] = _
    rw [show x / 4294967296 % 256 = a by omega, show x / 16777216 % 256 = b by omega, show x / 65536 % 256 = c by omega, show x / 256 % 256 = d by omega, show x % 256 = e by omega]
  | [a, b, c, d, e, f], HB, _, h0 =>
    have ha : 0 ≤ a ∧ a ≤ 255 := HB a (by simp)
    have hb : 0 ≤ b ∧ b ≤ 255 := HB b (by simp)
    have hc : 0 ≤ c ∧ c ≤ 255 := HB c (by simp)
    have hd : 0 ≤ d ∧ d ≤ 255 := HB d (by simp)
    have he : 0 ≤ e ∧ e ≤ 255 := HB e (by simp)
    have hf : 0 ≤ f ∧ f ≤ 255 := HB f (by simp)
    have h0 : a ≠ 0 := h0.elim (fun h => by simp at h) id
    rw [val6 a b c d e f ha hb hc hd he hf]
    generalize hx : ((((((0 * 256 + a) * 256 + b) * 256 + c) * 256 + d) * 256 + e) * 256 + f) = x
    have hu : U64 x := by unfold U64; omega
    rw [least_f x hu k hk 6 (by omega) (by simp only [Int.reducePow]; omega) (Or.inr (by simp only [Nat.reduceSub, Int.reducePow]; omega))]
    show some [x / 1099511627776 % 256, x / 4294967296 % 256, x / 16777216 % 256, x / 65536 % 256, x / 256 % 256, x % 256] = _
    rw [show x / 1099511627776 % 256 = a by omega, show x / 4294967296 % 256 = b by omega, show x / 16777216 % 256 = c by omega, show x / 65536 % 256 = d by omega, show x / 256 % 256 = e by omega, show x % 256 = f by omega]
  | [a, b, c, d, e, f, g], HB, _, h0 =>
    have ha : 0 ≤ a ∧ a ≤ 255 := HB a (by simp)
    have hb : 0 ≤ b ∧ b ≤ 255 := HB b (by simp)
    have hc : 0 ≤ c ∧ c ≤ 255 := HB c (by simp)
    have hd : 0 ≤ d ∧ d ≤ 255 := HB d (by simp)
    have he : 0 ≤ e ∧ e ≤ 255 := HB e (by simp)
    have hf : 0 ≤ f ∧ f ≤ 255 := HB f (by simp)
    have hg : 0 ≤ g ∧ g ≤ 255 := HB g (by simp)
    have h0 : a ≠ 0 := h0.elim (fun h => by simp at h) id
    rw [val7 a b c d e f g ha hb hc hd he hf hg]
    generalize hx : (((((((0 * 256 + a) * 256 + b) * 256 + c) * 256 + d) * 256 + e) * 256 + f) * 256 + g) = x
    have hu : U64 x := by unfold U64; omega
    rw [least_f x hu k hk 7 (by omega) (by simp only [Int.reducePow]; omega) (Or.inr (by simp only [Nat.reduceSub, Int.reducePow]; omega))]
    show some [x / 281474976710656 % 256, x / 1099511627776 % 256, x / 4294967296 % 256, x / 16777216 % 256, x / 65536 % 256, x / 256 % 256, x % 256] = _
    rw [show x / 281474976710656 % 256 = a by omega, show x / 1099511627776 % 256 = b by omega, show x / 4294967296 % 256 = c by omega, show x / 16777216 % 256 = d by omega, show x / 65536 % 256 = e by omega, show x / 256 % 256 = f by omega, show x % 256 = g by omega]
  | [a, b, c, d, e, f, g, h], HB, _, h0 =>
    have ha : 0 ≤ a ∧ a ≤ 255 := HB a (by simp)
    have hb : 0 ≤ b ∧ b ≤ 255 := HB b (by simp)
    have hc : 0 ≤ c ∧ c ≤ 255 := HB c (by simp)
    have hd : 0 ≤ d ∧ d ≤ 255 := HB d (by simp)
    have he : 0 ≤ e ∧ e ≤ 255 := HB e (by simp)
    have hf : 0 ≤ f ∧ f ≤ 255 := HB f (by simp)
    have hg : 0 ≤ g ∧ g ≤ 255 := HB g (by simp)
    have hh : 0 ≤ h ∧ h ≤ 255 := HB h (by simp)
    have h0 : a ≠ 0 := h0.elim (fun h => by simp at h) id
    rw [val8 a b c d e f g h ha hb hc hd he hf hg hh]
    generalize hx : ((((((((0 * 256 + a) * 256 + b) * 256 + c) * 256 + d) * 256 + e) * 256 + f) * 256 + g) * 256 + h) = x
    have hu : U64 x := by unfold U64; omega
    rw [least_f x hu k hk 8 (by omega) (by simp only [Int.reducePow]; omega) (Or.inr (by simp only [Nat.reduceSub, Int.reducePow]; omega))]
    show some [x / 72057594037927936 % 256, x / 281474976710656 % 256, x / 1099511627776 % 256, x / 4294967296 % 256, x / 16777216 % 256, x / 65536 % 256, x / 256 % 256, x % 256] = _
    rw [show x / 72057594037927936 % 256 = a by omega, show x / 281474976710656 % 256 = b by omega, show x / 1099511627776 % 256 = c by omega, show x / 4294967296 % 256 = d by omega, show x / 16777216 % 256 = e by omega, show x / 65536 % 256 = f by omega, show x / 256 % 256 = g by omega, show x % 256 = h by omega]
  | _ :: _ :: _ :: _ :: _ :: _ :: _ :: _ :: _ :: t, _, hl, _ => simp only [List.length_cons] at hl; omega
theorem bytesOf_len : ∀ l : List Int, (bytesOf l).length = 4 * l.length
  | [] => rfl
  | a :: t => by
    simp only [bytesOf, List.length_append, List.length_cons, bytesOf_len t, word4b, List.length_nil]; omega
theorem w4val (a b c d : Int) (ha : 0 ≤ a ∧ a ≤ 255) (hb : 0 ≤ b ∧ b ≤ 255) (hc : 0 ≤ c ∧ c ≤ 255) (hd : 0 ≤ d ∧ d ≤ 255) : val [a, b, c, d] % 4294967296 = 16777216 * a + 65536 * b + 256 * c + d := by
  simp only [val, List.foldl, vs]; omega
theorem words_bytes : ∀ l : List Int, Words l → wordsOf (bytesOf l) = l
  | [], _ => rfl
  | x :: t, h => by
    have hx := h x (by simp)
    simp only [bytesOf, word4b, List.cons_append, List.nil_append, wordsOf]
    rw [words_bytes t (fun y hy => h y (by simp [hy])), w4val _ _ _ _ (by omega) (by omega) (by omega) (by omega), show 16777216 * (x / 16777216 % 256) + 65536 * (x / 65536 % 256) + 256 * (x / 256 % 256) + x % 256 = x by omega]
theorem short_take (l : List Int) (h : l.length < 4) : bytesOf (wordsOf l) = l.take (l.length / 4 * 4) := by
  rw [wordsOf_short l h, show l.length / 4 * 4 = 0 by omega]; rfl
theorem bytes_words : ∀ (n : Nat) (l : List Int), l.length ≤ n → Bytes l → bytesOf (wordsOf l) = l.take (l.length / 4 * 4)
  | 0, l, h, _ => by obtain rfl : l = [] := List.eq_nil_of_length_eq_zero (by omega); rfl
  | n + 1, [], _, _ => rfl
  | n + 1, [_], _, _ => short_take _ (by simp only [List.length_cons, List.length_nil]; omega)
  | n + 1, [_, _], _, _ => short_take _ (by simp only [List.length_cons, List.length_nil]; omega)
  | n + 1, [_, _, _], _, _ => short_take _ (by simp only [List.length_cons, List.length_nil]; omega)
  | n + 1, a :: b :: c :: d :: t, hn, hb => by
    have ha := hb a (by simp)
    have hb' := hb b (by simp)
    have hc := hb c (by simp)
    have hd := hb d (by simp)
    have ih := bytes_words n t (by simp only [List.length_cons] at hn; omega) (fun y hy => hb y (by simp [hy]))
    simp only [wordsOf, bytesOf, word4b, List.length_cons]
    rw [ih, w4val a b c d ha hb' hc hd, show (t.length + 1 + 1 + 1 + 1) / 4 * 4 = t.length / 4 * 4 + 1 + 1 + 1 + 1 by omega]
    simp only [List.take_succ_cons, List.cons_append, List.nil_append]
    rw [show (16777216 * a + 65536 * b + 256 * c + d) / 16777216 % 256 = a by omega, show (16777216 * a + 65536 * b + 256 * c + d) / 65536 % 256 = b by omega, show (16777216 * a + 65536 * b + 256 * c + d) / 256 % 256 = c by omega, show (16777216 * a + 65536 * b + 256 * c + d) % 256 = d by omega]
theorem get_p8 (x : Int) (h : U64 x) (k : Nat) (hk : 8 < k) : word_Get.f k (p8 x) = some (x, 0) := by
  have := get_f (p8 x) (p8_bytes x) (by rw [p8_len]; omega) k (by rw [p8_len]; omega)
  rw [this, p8_len, if_pos (by omega), val_p8 x h]
theorem WordBack_j2 (k : Nat) (l : List Int) (hb : Bytes l) (hl : l.length ≤ 3000) (hk : 4000 ≤ k) : wristbandlaw01_WordBack.j2 (k + 1) l false = some true := by
  simp only [wristbandlaw01_WordBack.j2]
  rw [if_neg (by decide)]
  by_cases h8 : l.length ≤ 8
  · by_cases h0 : l.length = 0 ∨ rd l 0 ≠ 0
    · rw [fromLeast_ok l hb h8 h0 k (by omega)]
      simp only [Option.bind_some, if_true]
      rw [least_val l hb h8 h0 k (by omega)]
      simp only [Option.bind_some, beq_self_eq_true]
    · have hne : l.length ≠ 0 := fun e => h0 (Or.inl e)
      have hz : rd l 0 = 0 := Classical.byContradiction fun e => h0 (Or.inr e)
      have e : word_FromLeast.f k l = some (0, 3) := by
        unfold word_FromLeast.f
        rw [if_neg (by omega), if_pos (by omega), if_pos (by omega), if_pos hz]
      rw [e]
      simp only [Option.bind_some]
      rw [if_neg (by decide), if_pos trivial]
  · have e : word_FromLeast.f k l = some (0, 4) := by
      unfold word_FromLeast.f
      rw [if_pos (by omega)]
    rw [e]
    simp only [Option.bind_some]
    rw [if_neg (by decide), if_pos trivial]
theorem WordBack_j1 (k : Nat) (l : List Int) (v w : Int) (hv : U64 v) (hw : U64 w) (hb : Bytes l) (hl : l.length ≤ 3000) (hk : 4000 ≤ k) : wristbandlaw01_WordBack.j1 (k + 1 + 1) l v w false = some true := by
  obtain ⟨m, hm, m1, m2⟩ := m_cases v hv
  obtain ⟨n, hn, n1, n2⟩ := m_cases w hw
  simp only [wristbandlaw01_WordBack.j1]
  rw [if_neg (by decide), least_f v hv (k + 1) (by omega) m hm m1 m2, least_f w hw (k + 1) (by omega) n hn n1 n2]
  simp only [Option.bind_some]
  have e : ((strOfNums ((p8 v).drop (8 - m))).toList == (strOfNums ((p8 w).drop (8 - n))).toList) = (v == w) := by
    rw [str_beq _ _ ((p8_bytes v).drop _) ((p8_bytes w).drop _)]
    by_cases hvw : v = w
    · subst hvw
      have hmn : m = n := Nat.le_antisymm (m_mono v v (Int.le_refl _) m n hm hn m2 n1) (m_mono v v (Int.le_refl _) n m hn hm n2 m1)
      subst hmn
      rw [decide_eq_true rfl, beq_self_eq_true]
    · have hne : (p8 v).drop (8 - m) ≠ (p8 w).drop (8 - n) := fun e => hvw (by rw [← val_drop v hv m hm m1, ← val_drop w hw n hn n1, e])
      rw [decide_eq_false hne]
      exact (beq_eq_false_iff_ne.mpr hvw).symm
  rw [e, bne_self_eq_false, if_neg (by decide)]
  by_cases hle : v ≤ w
  · have hmn := m_mono v w hle m n hm hn m2 n1
    rw [if_pos hle, decide_eq_false (by rw [List.length_drop, List.length_drop, p8_len, p8_len]; omega)]
    exact WordBack_j2 k l hb hl hk
  · rw [if_neg hle]
    exact WordBack_j2 k l hb hl hk
theorem WordBack_j0 (k : Nat) (l0 l1 : List Int) (v w : Int) (hv : U64 v) (hw : U64 w) (hb : Bytes l0) (hl : l0.length ≤ 3000) (h1 : Words l1) (hl1 : l1.length ≤ 3000) (hk : 20000 ≤ k) : wristbandlaw01_WordBack.j0 (k + 1 + 1 + 1) l0 l1 v w false = some true := by
  obtain ⟨m, hm, m1, m2⟩ := m_cases v hv
  have hd := (p8_bytes v).drop (8 - m)
  have hlen : ((p8 v).drop (8 - m)).length = m := by rw [List.length_drop, p8_len]; omega
  have hhead : ((p8 v).drop (8 - m)).length = 0 ∨ rd ((p8 v).drop (8 - m)) 0 ≠ 0 := by rw [hlen]; exact drop_head v hv m hm m1 m2
  have hw0 := wordsOf_len l0.length l0 (Nat.le_refl _)
  have hb1 := bytesOf_len l1
  have hcut : wrap64 ((wrap64 ((l0.length : Int) / 4)) * 4) = ((l0.length / 4 * 4 : Nat) : Int) := by
    rw [wrap64_id (show -9223372036854775808 ≤ (l0.length : Int) / 4 by omega) (by omega), wrap64_id (by omega) (by omega)]; omega
  simp only [wristbandlaw01_WordBack.j0]
  rw [hcut]
  clear hcut
  rw [if_neg (by decide), put_f v hv _ (by omega)]
  simp only [Option.bind_some]
  rw [get_p8 v hv _ (by omega), least_f v hv _ (by omega) m hm m1 m2]
  simp only [Option.bind_some]
  rw [fromLeast_ok _ hd (by omega) hhead _ (by omega), val_drop v hv m hm m1]
  simp only [Option.bind_some, if_true]
  rw [bytes_f l1 (by omega) _ (by omega)]
  simp only [Option.bind_some]
  rw [words_f _ (bytesOf_bytes l1) _ (by omega) (by omega), words_bytes l1 h1]
  simp only [Option.bind_some]
  rw [refSame_f l1 (by omega) _ (by omega)]
  simp only [Option.bind_some, if_true]
  rw [words_f l0 hb _ (by omega) (by omega)]
  simp only [Option.bind_some]
  rw [bytes_f _ (by omega) _ (by omega), bytes_words l0.length l0 (Nat.le_refl _) hb]
  simp only [Option.bind_some]
  rw [if_pos (by omega), if_pos (by omega), Int.toNat_natCast, bne_self_eq_false]
  exact WordBack_j1 k l0 v w hv hw hb hl (by omega)
theorem awake1 : wristbandlaw01_awake.f 200 = some true := by
  unfold wristbandlaw01_awake.f
  simp only [toList_data]
  decide +kernel
theorem awake1_at (k : Nat) (hk : 200 ≤ k) : wristbandlaw01_awake.f k = some true := at_rounds wristbandlaw01_awake.mono hk awake1
theorem WordBack : wristbandlaw01_WordBack.Pure := by
  intro l0 l1 v w _ _ hb0 _ _ hw0 h3 h4
  have hv : U64 v := by have := bounds_u64 h3; unfold U64; omega
  have hw : U64 w := by have := bounds_u64 h4; unfold U64; omega
  obtain ⟨k, hk⟩ : ∃ k : Nat, k = 20000 := ⟨_, rfl⟩
  refine ⟨k + 1 + 1 + 1, ?_⟩
  unfold wristbandlaw01_WordBack.f
  rw [awake1_at _ (by omega)]
  simp only [Option.bind_some, if_true]
  by_cases c2 : (l0.length : Int) > 3000
  · rw [if_pos c2]; simp only [wristbandlaw01_WordBack.j0]; rw [if_pos trivial]
  · rw [if_neg c2]
    by_cases c3 : (l1.length : Int) > 3000
    · rw [decide_eq_true c3]; simp only [wristbandlaw01_WordBack.j0]; rw [if_pos trivial]
    · rw [decide_eq_false c3]
      exact WordBack_j0 k l0 l1 v w hv hw (bytes_of hb0) (by omega) (words_of hw0) (by omega) (by omega)

end Go.Proofs.Ytnpkhkhlofkbhaa.Pure
