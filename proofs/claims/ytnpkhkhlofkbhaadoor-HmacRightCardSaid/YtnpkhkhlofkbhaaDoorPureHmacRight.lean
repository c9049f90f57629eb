/- The plain law of HmacRight: a key's block and a text's tag are the document's. -/
import Derived.Test.YtnpkhkhlofkbhaaDoorPHmacRightx8
import Derived.OpenShut
set_option linter.unusedVariables false
set_option linter.unusedSimpArgs false
namespace Go.Proofs.YtnpkhkhlofkbhaaDoor.Pure
open Go.RowKit Go.Proofs.YtnpkhkhlofkbhaaDoor.PHmacRight Go.Proofs.YtnpkhkhlofkbhaaDoorW.PrintWords Go.Proofs.YtnpkhkhlofkbhaaDoorW.PrintLast Go.Proofs.YtnpkhkhlofkbhaaDoorW.PrintMore

theorem wrap64_id {n : Int} (h0 : -9223372036854775808 ≤ n) (h1 : n ≤ 9223372036854775807) : wrap64 n = n := by unfold wrap64; omega
theorem ex_succ {k n : Nat} (h : n < k) : ∃ m, k = m + 1 := ⟨k - 1, by omega⟩
def Bytes (l : List Int) : Prop := ∀ x ∈ l, 0 ≤ x ∧ x ≤ 255
theorem bytes_of {l : List Int} (h : ∀ x ∈ l, (Lit.int .u8 x).wf = true) : Bytes l := fun x hx => bounds_u8 (h x hx)
theorem rd_at {l : List Int} (i : Nat) (h : i < l.length) : rd l (i : Int) = l[i] := by
  unfold rd
  simp [List.getD_eq_getElem?_getD, List.getElem?_eq_getElem h]
theorem rd_bytes {l : List Int} (h : Bytes l) (i : Int) : 0 ≤ rd l i ∧ rd l i ≤ 255 := by
  unfold rd
  rw [List.getD_eq_getElem?_getD]
  rcases Nat.lt_or_ge i.toNat l.length with hl | hl
  · rw [List.getElem?_eq_getElem hl]; exact h _ (List.getElem_mem hl)
  · rw [List.getElem?_eq_none hl]; simp
theorem Bytes.take {l : List Int} (h : Bytes l) (n : Nat) : Bytes (l.take n) := fun x hx => h x (List.mem_of_mem_take hx)
theorem Bytes.drop {l : List Int} (h : Bytes l) (n : Nat) : Bytes (l.drop n) := fun x hx => h x (List.mem_of_mem_drop hx)
theorem Bytes.cons {a : Int} {l : List Int} (h : Bytes (a :: l)) : (0 ≤ a ∧ a ≤ 255) ∧ Bytes l := ⟨h a (by simp), fun x hx => h x (by simp [hx])⟩
theorem u64w (n : Int) : IntKind.u64.wrap n = n % 18446744073709551616 := by simp [IntKind.wrap, IntKind.bits, IntKind.signed]
theorem wraps_u64 (n : Int) (h₀ : 0 ≤ n) (h₁ : n < 2 ^ 64) : IntKind.u64.wrap n = n := by rw [u64w]; omega
theorem wraps_u32 (n : Int) (h₀ : 0 ≤ n) (h₁ : n < 2 ^ 32) : IntKind.u32.wrap n = n := by rw [IntKind.wrap_u32]; omega
theorem tmod_nn {a b : Int} (h : 0 ≤ a) : Int.tmod a b = a % b := Int.tmod_eq_emod_of_nonneg h
theorem tdiv_nn {a b : Int} (h : 0 ≤ a) : Int.tdiv a b = a / b := Int.tdiv_eq_ediv_of_nonneg h
def vs (v x : Int) : Int := (v * 256) % 18446744073709551616 + x
def val (l : List Int) : Int := l.foldl vs 0
theorem or_step (v x : Int) (h0 : 0 ≤ x) (h1 : x ≤ 255) : Go.bits .or .u64 (IntKind.u64.wrap (v * 256)) (IntKind.u64.wrap x) = vs v x := by
  rw [u64w, u64w, show x % 18446744073709551616 = x by omega]
  exact bits_join .u64 64 (by decide) wraps_u64 8 _ x (by omega) (by omega) (by omega) h0 (by omega) (by omega)
theorem vs_range (v x : Int) (h0 : 0 ≤ x) (h1 : x ≤ 255) : 0 ≤ vs v x ∧ vs v x < 18446744073709551616 := by unfold vs; omega
theorem foldl_range : ∀ (l : List Int) (v : Int), Bytes l → 0 ≤ v → v < 18446744073709551616 → 0 ≤ l.foldl vs v ∧ l.foldl vs v < 18446744073709551616
  | [], v, _, h0, h1 => ⟨h0, h1⟩
  | a :: l, v, hb, _, _ => by
    have h := vs_range v a hb.cons.1.1 hb.cons.1.2
    exact foldl_range l _ hb.cons.2 h.1 h.2
theorem val_range {l : List Int} (hb : Bytes l) : 0 ≤ val l ∧ val l < 18446744073709551616 := foldl_range l 0 hb (by omega) (by omega)
theorem value_l0 (l : List Int) (hb : Bytes l) (hl : l.length ≤ 9223372036854775806) : ∀ (d k : Nat) (v : Int) (i : Nat), i + d = l.length → d < k → word_value.l0 k v l (l.length : Int) (i : Int) = some ((l.drop i).foldl vs v) := by
  intro d
  induction d with
  | zero =>
    intro k v i hi hk
    obtain ⟨k, rfl⟩ := ex_succ hk
    simp only [word_value.l0]
    rw [if_neg (by omega), List.drop_eq_nil_of_le (by omega)]; rfl
  | succ d ih =>
    intro k v i hi hk
    obtain ⟨k, rfl⟩ := ex_succ hk
    have hlt : i < l.length := by omega
    simp only [word_value.l0]
    rw [if_pos (by omega), if_pos (by omega), if_pos (by omega), or_step _ _ (rd_bytes hb _).1 (rd_bytes hb _).2, wrap64_id (by omega) (by omega), show ((i : Int) + 1) = ((i + 1 : Nat) : Int) by omega, ih k _ (i + 1) (by omega) (by omega), rd_at i hlt, List.drop_eq_getElem_cons hlt]
    rfl
theorem value_f (l : List Int) (hb : Bytes l) (hl : l.length ≤ 9223372036854775806) (k : Nat) (hk : l.length < k) : word_value.f k l = some (val l) := by
  unfold word_value.f
  rw [show (0 : Int) = ((0 : Nat) : Int) from rfl, value_l0 l hb hl l.length k _ 0 (by omega) hk]; rfl
/-! strings of bytes -/
theorem toList_loop (b : ByteArray) : ∀ (d i : Nat) (r : List UInt8), i + d = b.size → ByteArray.toList.loop b i r = r.reverse ++ b.data.toList.drop i := by
  intro d
  induction d with
  | zero =>
    intro i r h
    rw [ByteArray.toList.loop, if_neg (by omega), List.drop_eq_nil_of_le (by rw [Array.length_toList]; show b.size ≤ i; omega), List.append_nil]
  | succ d ih =>
    intro i r h
    have hlt : i < b.size := by omega
    have hl : i < b.data.toList.length := by rw [Array.length_toList]; exact hlt
    have hg : b.get! i = b.data.toList[i] := by
      show b.data[i]! = _
      rw [getElem!_pos b.data i hlt, Array.getElem_toList]
    rw [ByteArray.toList.loop, if_pos hlt, ih (i + 1) _ (by omega), List.drop_eq_getElem_cons hl, hg]
    simp
theorem toList_data (b : ByteArray) : b.toList = b.data.toList := by
  unfold ByteArray.toList
  rw [toList_loop b b.size 0 [] (by omega)]
  simp
theorem str_toList (xs : List Int) : (strOfNums xs).toList = xs.map fun n => UInt8.ofNat n.toNat := by
  rw [toList_data]; simp [strOfNums]
theorem ofNat_inj (a b : Int) (ha : 0 ≤ a ∧ a ≤ 255) (hb : 0 ≤ b ∧ b ≤ 255) (h : UInt8.ofNat a.toNat = UInt8.ofNat b.toNat) : a = b := by
  have h2 := congrArg UInt8.toNat h
  simp only [UInt8.toNat_ofNat'] at h2
  omega
theorem map_inj : ∀ (xs ys : List Int), Bytes xs → Bytes ys → (xs.map fun n => UInt8.ofNat n.toNat) = (ys.map fun n => UInt8.ofNat n.toNat) → xs = ys
  | [], [], _, _, _ => rfl
  | [], _ :: _, _, _, h => by simp at h
  | _ :: _, [], _, _, h => by simp at h
  | x :: xs, y :: ys, hx, hy, h => by
    simp only [List.map_cons, List.cons.injEq] at h
    rw [ofNat_inj x y hx.cons.1 hy.cons.1 h.1, map_inj xs ys hx.cons.2 hy.cons.2 h.2]
theorem str_inj (xs ys : List Int) (hx : Bytes xs) (hy : Bytes ys) : (strOfNums xs).toList = (strOfNums ys).toList ↔ xs = ys := by
  rw [str_toList, str_toList]
  exact ⟨map_inj xs ys hx hy, fun h => by rw [h]⟩
theorem str_beq (xs ys : List Int) (hx : Bytes xs) (hy : Bytes ys) : ((strOfNums xs).toList == (strOfNums ys).toList) = decide (xs = ys) := by
  by_cases h : xs = ys
  · subst h; simp
  · rw [decide_eq_false h, beq_eq_false_iff_ne]
    exact fun h2 => h ((str_inj xs ys hx hy).1 h2)
theorem str_size (xs : List Int) : (strOfNums xs).size = xs.length := by
  show (strOfNums xs).data.size = _
  simp [strOfNums]
theorem str_append (xs ys : List Int) : strOfNums (xs ++ ys) = strOfNums xs ++ strOfNums ys := by
  apply ByteArray.ext
  simp [strOfNums]
theorem str_bt (xs : List Int) (hx : Bytes xs) (i : Nat) (h : i < xs.length) : bt (strOfNums xs) (i : Int) = xs[i] := by
  have hs : i < (strOfNums xs).size := by rw [str_size]; exact h
  have hr := hx xs[i] (List.getElem_mem h)
  unfold bt
  simp only [Int.toNat_natCast]
  rw [dif_pos hs, ByteArray.getElem_eq_getElem_data]
  simp only [strOfNums, List.getElem_toArray, List.getElem_map, UInt8.toNat_ofNat']
  omega
theorem str_extract (xs : List Int) (i : Nat) : (strOfNums xs).extract i (strOfNums xs).size = strOfNums (xs.drop i) := by
  apply ByteArray.ext
  rw [ByteArray.data_extract]
  show ((strOfNums xs).data.extract i (strOfNums xs).data.size) = _
  simp [strOfNums, List.map_drop]
  exact List.take_of_length_le (by simp)
def word4b (x : Int) : List Int := [(x / 16777216) % 256, (x / 65536) % 256, (x / 256) % 256, x % 256]
def bytesOf : List Int → List Int
  | [] => []
  | a :: t => word4b a ++ bytesOf t
theorem word4b_bytes (x : Int) : Bytes (word4b x) := by
  intro y hy
  simp only [word4b, List.mem_cons, List.not_mem_nil, or_false] at hy
  omega
theorem bytesOf_bytes : ∀ l : List Int, Bytes (bytesOf l)
  | [] => fun _ h => by simp [bytesOf] at h
  | a :: t => fun x h => by
    simp only [bytesOf, List.mem_append] at h
    rcases h with h | h
    · exact word4b_bytes a x h
    · exact bytesOf_bytes t x h
def Words (l : List Int) : Prop := ∀ x ∈ l, 0 ≤ x ∧ x < 4294967296
theorem rd_words {l : List Int} (h : Words l) (i : Nat) (hi : i < l.length) : 0 ≤ rd l (i : Int) ∧ rd l (i : Int) < 4294967296 := by
  rw [rd_at i hi]; exact h _ (List.getElem_mem hi)
theorem drop_rd (l : List Int) (i : Nat) (h : i < l.length) : l.drop i = rd l (i : Int) :: l.drop (i + 1) := by
  rw [rd_at i h, List.drop_eq_getElem_cons h]
theorem bytes_l0 (l : List Int) (hl : l.length ≤ 35184372087808) : ∀ (d k : Nat) (out : List Int) (i : Nat), i + d = l.length → d < k → out.length + 4 * d < 140737488355328 → word_Bytes.l0 k out l (l.length : Int) (i : Int) = some (out ++ bytesOf (l.drop i)) := by
  intro d
  induction d with
  | zero =>
    intro k out i hi hk ho
    obtain ⟨k, rfl⟩ := ex_succ hk
    simp only [word_Bytes.l0]
    rw [if_neg (by omega), List.drop_eq_nil_of_le (by omega)]; simp [bytesOf]
  | succ d ih =>
    intro k out i hi hk ho
    obtain ⟨k, rfl⟩ := ex_succ hk
    have hw1 : wrap64 ((i : Int) + 1) = ((i + 1 : Nat) : Int) := by rw [wrap64_id (by omega) (by omega)]; omega
    simp only [word_Bytes.l0, hw1, Option.bind_some]
    clear hw1
    rw [if_pos (by omega), if_pos (by omega), if_pos (by omega), if_pos (by simp only [List.length_cons, List.length_nil]; omega), ih k _ (i + 1) (by omega) (by omega) (by simp only [List.length_append, List.length_cons, List.length_nil]; omega), drop_rd l i (by omega)]
    simp [bytesOf, word4b]
theorem bytes_f (l : List Int) (hl : l.length ≤ 35184372087808) (k : Nat) (hk : l.length < k) : word_Bytes.f k l = some (bytesOf l) := by
  unfold word_Bytes.f
  rw [show (0 : Int) = ((0 : Nat) : Int) from rfl, bytes_l0 l hl l.length k [] 0 (by omega) hk (by simp only [List.length_nil]; omega)]; simp
def p8 (x : Int) : List Int := [x / 72057594037927936 % 256, x / 281474976710656 % 256, x / 1099511627776 % 256, x / 4294967296 % 256, x / 16777216 % 256, x / 65536 % 256, x / 256 % 256, x % 256]
def U64 (x : Int) : Prop := 0 ≤ x ∧ x < 18446744073709551616
theorem p8_bytes (x : Int) : Bytes (p8 x) := by
  intro y hy
  simp only [p8, List.mem_cons, List.not_mem_nil, or_false] at hy
  omega
theorem put_f (x : Int) (h : U64 x) (k : Nat) (hk : 2 < k) : word_Put.f k x = some (p8 x) := by
  unfold U64 at h
  unfold word_Put.f
  rw [bytes_f _ (by simp) k (by simpa using hk)]
  simp only [Option.bind_some, bytesOf, word4b, List.cons_append, List.nil_append, List.append_nil, p8]
  rw [show x / 4294967296 % 4294967296 / 16777216 % 256 = x / 72057594037927936 % 256 by omega, show x / 4294967296 % 4294967296 / 65536 % 256 = x / 281474976710656 % 256 by omega, show x / 4294967296 % 4294967296 / 256 % 256 = x / 1099511627776 % 256 by omega, show x / 4294967296 % 4294967296 % 256 = x / 4294967296 % 256 by omega, show x % 4294967296 / 16777216 % 256 = x / 16777216 % 256 by omega, show x % 4294967296 / 65536 % 256 = x / 65536 % 256 by omega, show x % 4294967296 / 256 % 256 = x / 256 % 256 by omega, show x % 4294967296 % 256 = x % 256 by omega]
theorem clone_f (l : List Int) (h : l.length < 140737488355328) : slices_Clone_byte_byte.f l = some l := by
  unfold slices_Clone_byte_byte.f
  rw [if_pos h]
theorem p8_len (x : Int) : (p8 x).length = 8 := rfl
theorem vsL (v x : Int) (h0 : 0 ≤ v) (h1 : v < 72057594037927936) (hx : 0 ≤ x ∧ x ≤ 255) : vs v x = v * 256 + x := by unfold vs; omega
theorem val8 (a b c d e f g h : Int) (ha : 0 ≤ a ∧ a ≤ 255) (hb : 0 ≤ b ∧ b ≤ 255) (hc : 0 ≤ c ∧ c ≤ 255) (hd : 0 ≤ d ∧ d ≤ 255) (he : 0 ≤ e ∧ e ≤ 255) (hf : 0 ≤ f ∧ f ≤ 255) (hg : 0 ≤ g ∧ g ≤ 255) (hh : 0 ≤ h ∧ h ≤ 255) : val [a, b, c, d, e, f, g, h] = ((((((((0 * 256 + a) * 256 + b) * 256 + c) * 256 + d) * 256 + e) * 256 + f) * 256 + g) * 256 + h) := by
  simp only [val, List.foldl]
  rw [vsL (0) a (by omega) (by omega) ha, vsL ((0 * 256 + a)) b (by omega) (by omega) hb, vsL (((0 * 256 + a) * 256 + b)) c (by omega) (by omega) hc, vsL ((((0 * 256 + a) * 256 + b) * 256 + c)) d (by omega) (by omega) hd, vsL (((((0 * 256 + a) * 256 + b) * 256 + c) * 256 + d)) e (by omega) (by omega) he, vsL ((((((0 * 256 + a) * 256 + b) * 256 + c) * 256 + d) * 256 + e)) f (by omega) (by omega) hf, vsL (((((((0 * 256 + a) * 256 + b) * 256 + c) * 256 + d) * 256 + e) * 256 + f)) g (by omega) (by omega) hg, vsL ((((((((0 * 256 + a) * 256 + b) * 256 + c) * 256 + d) * 256 + e) * 256 + f) * 256 + g)) h (by omega) (by omega) hh]
theorem val_p8 (x : Int) (h : U64 x) : val (p8 x) = x := by
  have hb := p8_bytes x
  unfold p8 at *
  have m : ∀ y : Int, 0 ≤ y % 256 ∧ y % 256 ≤ 255 := fun y => by omega
  rw [val8 _ _ _ _ _ _ _ _ (m _) (m _) (m _) (m _) (m _) (m _) (m _) (m _)]
  unfold U64 at h
  rw [show x / 65536 = x / 256 / 256 by omega, show x / 16777216 = x / 256 / 256 / 256 by omega, show x / 4294967296 = x / 256 / 256 / 256 / 256 by omega, show x / 1099511627776 = x / 256 / 256 / 256 / 256 / 256 by omega, show x / 281474976710656 = x / 256 / 256 / 256 / 256 / 256 / 256 by omega, show x / 72057594037927936 = x / 256 / 256 / 256 / 256 / 256 / 256 / 256 by omega]
  have s : ∀ y : Int, y = 256 * (y / 256) + y % 256 := fun y => by omega
  have t : x / 256 / 256 / 256 / 256 / 256 / 256 / 256 < 256 ∧ 0 ≤ x / 256 / 256 / 256 / 256 / 256 / 256 / 256 := by omega
  have s0 := s x
  have s1 := s (x / 256)
  have s2 := s (x / 256 / 256)
  have s3 := s (x / 256 / 256 / 256)
  have s4 := s (x / 256 / 256 / 256 / 256)
  have s5 := s (x / 256 / 256 / 256 / 256 / 256)
  have s6 := s (x / 256 / 256 / 256 / 256 / 256 / 256)
  have s7 : x / 256 / 256 / 256 / 256 / 256 / 256 / 256 % 256 = x / 256 / 256 / 256 / 256 / 256 / 256 / 256 := by omega
  rw [s7]
  clear s7 m s hb
  generalize x / 256 / 256 / 256 / 256 / 256 / 256 / 256 = y7 at *
  generalize x / 256 / 256 / 256 / 256 / 256 / 256 % 256 = r6 at *
  generalize x / 256 / 256 / 256 / 256 / 256 / 256 = y6 at *
  generalize x / 256 / 256 / 256 / 256 / 256 % 256 = r5 at *
  generalize x / 256 / 256 / 256 / 256 / 256 = y5 at *
  generalize x / 256 / 256 / 256 / 256 % 256 = r4 at *
  generalize x / 256 / 256 / 256 / 256 = y4 at *
  generalize x / 256 / 256 / 256 % 256 = r3 at *
  generalize x / 256 / 256 / 256 = y3 at *
  generalize x / 256 / 256 % 256 = r2 at *
  generalize x / 256 / 256 = y2 at *
  generalize x / 256 % 256 = r1 at *
  generalize x / 256 = y1 at *
  generalize x % 256 = r0 at *
  omega
theorem p8_val : ∀ l : List Int, Bytes l → l.length = 8 → p8 (val l) = l
  | [a, b, c, d, e, f, g, h], hb, _ => by
    have ha := hb a (by simp)
    have hbb := hb b (by simp)
    have hc := hb c (by simp)
    have hd := hb d (by simp)
    have he := hb e (by simp)
    have hf := hb f (by simp)
    have hg := hb g (by simp)
    have hh := hb h (by simp)
    rw [val8 _ _ _ _ _ _ _ _ ha hbb hc hd he hf hg hh]
    clear hb
    unfold p8
    congr 1
    · omega
    congr 1
    · omega
    congr 1
    · omega
    congr 1
    · omega
    congr 1
    · omega
    congr 1
    · omega
    congr 1
    · omega
    congr 1
    omega
  | [], _, h => by simp at h
  | [_], _, h => by simp at h
  | [_, _], _, h => by simp at h
  | [_, _, _], _, h => by simp at h
  | [_, _, _, _], _, h => by simp at h
  | [_, _, _, _, _], _, h => by simp at h
  | [_, _, _, _, _, _], _, h => by simp at h
  | [_, _, _, _, _, _, _], _, h => by simp at h
  | _ :: _ :: _ :: _ :: _ :: _ :: _ :: _ :: _ :: _, _, h => by simp at h
def wordsOf : List Int → List Int
  | a :: b :: c :: d :: t => (val [a, b, c, d] % 4294967296) :: wordsOf t
  | _ => []
theorem words_l0 : ∀ (n : Nat) (l : List Int), l.length ≤ n → Bytes l → ∀ (k : Nat) (out : List Int), l.length + 6 ≤ k → out.length + l.length / 4 < 35184372088832 → word_Words.l0 k l out = some (out ++ wordsOf l) := by
  intro n
  induction n with
  | zero =>
    intro l hn hb k out hk ho
    obtain ⟨k, rfl⟩ := ex_succ (show 0 < k by omega)
    obtain rfl : l = [] := List.eq_nil_of_length_eq_zero (by omega)
    simp [word_Words.l0, wordsOf]
  | succ n ih =>
    intro l hn hb k out hk ho
    obtain ⟨k, rfl⟩ := ex_succ (show 0 < k by omega)
    by_cases h4 : 4 ≤ l.length
    · match l, h4, hb, hn, hk, ho with
      | a :: b :: c :: d :: t, h4, hb, hn, hk, ho =>
        simp only [List.length_cons] at hn hk ho
        have hbt : Bytes t := hb.cons.2.cons.2.cons.2.cons.2
        have hb4 : Bytes [a, b, c, d] := hb.take 4
        simp only [word_Words.l0]
        rw [if_pos (by simp only [List.length_cons]; omega), if_pos (by simp only [List.length_cons]; omega), show (a :: b :: c :: d :: t).take 4 = [a, b, c, d] from rfl, value_f _ hb4 (by simp) k (by simp only [List.length_cons, List.length_nil]; omega)]
        simp only [Option.bind_some]
        rw [if_pos (by omega), show (a :: b :: c :: d :: t).drop 4 = t from rfl, ih t (by omega) hbt k _ (by omega) (by simp only [List.length_append, List.length_cons, List.length_nil]; omega)]
        simp [wordsOf]
    · have hw : wordsOf l = [] := by
        match l, h4 with
        | [], _ => rfl
        | [_], _ => rfl
        | [_, _], _ => rfl
        | [_, _, _], _ => rfl
        | _ :: _ :: _ :: _ :: t, h => simp at h
      simp only [word_Words.l0]
      rw [if_neg (by omega), hw, List.append_nil]
theorem words_f (l : List Int) (hb : Bytes l) (k : Nat) (hk : l.length + 6 ≤ k) (hl : l.length / 4 < 35184372088832) : word_Words.f k l = some (wordsOf l) := by
  unfold word_Words.f
  rw [words_l0 l.length l (Nat.le_refl _) hb k [] hk (by simpa using hl)]; simp
/-! a word turned -/
def rotl1 (x : Int) : Int := (2 * x) % 4294967296 + x / 2147483648
def rotr1 (x : Int) : Int := x / 2 + (x % 2) * 2147483648
def itl : Nat → Int → Int
  | 0, x => x
  | n + 1, x => rotl1 (itl n x)
def U32 (x : Int) : Prop := 0 ≤ x ∧ x < 4294967296
theorem rotl1_u (x : Int) (h : U32 x) : U32 (rotl1 x) := by unfold U32 rotl1 at *; omega
theorem rotr1_u (x : Int) (h : U32 x) : U32 (rotr1 x) := by unfold U32 rotr1 at *; omega
theorem rot_lr (x : Int) (h : U32 x) : rotl1 (rotr1 x) = x := by
  unfold U32 rotl1 rotr1 at *
  rcases (show x % 2 = 0 ∨ x % 2 = 1 by omega) with e | e <;> (rw [e]; omega)
theorem rot_rl (x : Int) (h : U32 x) : rotr1 (rotl1 x) = x := by
  unfold U32 rotl1 rotr1 at *
  rcases (show x / 2147483648 = 0 ∨ x / 2147483648 = 1 by omega) with e | e <;> (rw [e]; omega)
theorem rsplit (x Q : Int) (hQ : 0 < Q) (hx : 0 ≤ x) : ∃ hi b l : Int, x = hi * (2 * Q) + b * Q + l ∧ 0 ≤ hi ∧ 0 ≤ l ∧ l < Q ∧ (b = 0 ∨ b = 1) := by
  refine ⟨x / (2 * Q), (x % (2 * Q)) / Q, (x % (2 * Q)) % Q, ?_, Int.ediv_nonneg hx (by omega), Int.emod_nonneg _ (by omega), Int.emod_lt_of_pos _ hQ, ?_⟩
  · have h1 := Int.mul_ediv_add_emod x (2 * Q)
    have h2 := Int.mul_ediv_add_emod (x % (2 * Q)) Q
    rw [Int.mul_comm (x / (2 * Q)) (2 * Q), Int.mul_comm ((x % (2 * Q)) / Q) Q]
    omega
  · have h1 := Int.emod_lt_of_pos x (show 0 < 2 * Q by omega)
    have h3 := Int.emod_nonneg x (show 2 * Q ≠ 0 by omega)
    have h0 : 0 ≤ (x % (2 * Q)) / Q := Int.ediv_nonneg h3 (by omega)
    have h2 : (x % (2 * Q)) / Q < 2 := Int.ediv_lt_of_lt_mul hQ h1
    omega
theorem itl_u : ∀ (n : Nat) (x : Int), U32 x → U32 (itl n x)
  | 0, _, h => h
  | n + 1, x, h => rotl1_u _ (itl_u n x h)
theorem itl_add : ∀ (m n : Nat) (x : Int), itl (m + n) x = itl m (itl n x)
  | 0, n, x => by rw [Nat.zero_add]; rfl
  | m + 1, n, x => by rw [show m + 1 + n = (m + n) + 1 by omega]; simp only [itl]; rw [itl_add m n x]
theorem rot_step (x : Int) (h : U32 x) : ∀ s : Nat, s < 31 → rotl1 ((x * 2 ^ s) % 4294967296 + x / 2 ^ (32 - s)) = (x * 2 ^ (s + 1)) % 4294967296 + x / 2 ^ (32 - (s + 1)) := by
  intro s hs
  unfold U32 at h
  have hc : s = 0 ∨ s = 1 ∨ s = 2 ∨ s = 3 ∨ s = 4 ∨ s = 5 ∨ s = 6 ∨ s = 7 ∨ s = 8 ∨ s = 9 ∨ s = 10 ∨ s = 11 ∨ s = 12 ∨ s = 13 ∨ s = 14 ∨ s = 15 ∨ s = 16 ∨ s = 17 ∨ s = 18 ∨ s = 19 ∨ s = 20 ∨ s = 21 ∨ s = 22 ∨ s = 23 ∨ s = 24 ∨ s = 25 ∨ s = 26 ∨ s = 27 ∨ s = 28 ∨ s = 29 ∨ s = 30 := by omega
  obtain ⟨hi, b, l, e, h1, h2, h3, hb⟩ := rsplit x (2 ^ (31 - s)) (Int.pow_pos (by omega)) h.1
  have d1 : x / 2 ^ (32 - s) = hi := by
    rcases hc with rfl | rfl | rfl | rfl | rfl | rfl | rfl | rfl | rfl | rfl | rfl | rfl | rfl | rfl | rfl | rfl | rfl | rfl | rfl | rfl | rfl | rfl | rfl | rfl | rfl | rfl | rfl | rfl | rfl | rfl | rfl <;> rcases hb with rfl | rfl <;> (simp only [Nat.reduceAdd, Nat.reduceSub, Int.reducePow] at e h3 ⊢; subst e; omega)
  have d2 : x / 2 ^ (32 - (s + 1)) = 2 * hi + b := by
    rcases hc with rfl | rfl | rfl | rfl | rfl | rfl | rfl | rfl | rfl | rfl | rfl | rfl | rfl | rfl | rfl | rfl | rfl | rfl | rfl | rfl | rfl | rfl | rfl | rfl | rfl | rfl | rfl | rfl | rfl | rfl | rfl <;> rcases hb with rfl | rfl <;> (simp only [Nat.reduceAdd, Nat.reduceSub, Int.reducePow] at e h3 ⊢; subst e; omega)
  have d3 : (x * 2 ^ s) % 4294967296 = b * 2147483648 + l * 2 ^ s := by
    rcases hc with rfl | rfl | rfl | rfl | rfl | rfl | rfl | rfl | rfl | rfl | rfl | rfl | rfl | rfl | rfl | rfl | rfl | rfl | rfl | rfl | rfl | rfl | rfl | rfl | rfl | rfl | rfl | rfl | rfl | rfl | rfl <;> rcases hb with rfl | rfl <;> (simp only [Nat.reduceAdd, Nat.reduceSub, Int.reducePow] at e h3 ⊢; subst e; omega)
  have d4 : (x * 2 ^ (s + 1)) % 4294967296 = l * 2 ^ s * 2 := by
    rcases hc with rfl | rfl | rfl | rfl | rfl | rfl | rfl | rfl | rfl | rfl | rfl | rfl | rfl | rfl | rfl | rfl | rfl | rfl | rfl | rfl | rfl | rfl | rfl | rfl | rfl | rfl | rfl | rfl | rfl | rfl | rfl <;> rcases hb with rfl | rfl <;> (simp only [Nat.reduceAdd, Nat.reduceSub, Int.reducePow] at e h3 ⊢; subst e; omega)
  have d5 : 0 ≤ hi + l * 2 ^ s ∧ hi + l * 2 ^ s < 2147483648 := by
    rcases hc with rfl | rfl | rfl | rfl | rfl | rfl | rfl | rfl | rfl | rfl | rfl | rfl | rfl | rfl | rfl | rfl | rfl | rfl | rfl | rfl | rfl | rfl | rfl | rfl | rfl | rfl | rfl | rfl | rfl | rfl | rfl <;> rcases hb with rfl | rfl <;> (simp only [Nat.reduceAdd, Nat.reduceSub, Int.reducePow] at e h3 ⊢; subst e; omega)
  rw [d1, d2, d3, d4]
  clear d1 d2 d3 d4 hc e h3
  generalize l * 2 ^ s = m at *
  unfold rotl1
  rcases hb with rfl | rfl <;> omega
theorem itl_form (x : Int) (h : U32 x) : ∀ s : Nat, s < 32 → itl s x = (x * 2 ^ s) % 4294967296 + x / 2 ^ (32 - s)
  | 0, _ => by unfold U32 at h; simp only [itl, Nat.sub_zero, Int.reducePow]; omega
  | s + 1, hs => by
    simp only [itl]
    rw [itl_form x h s (by omega)]
    exact rot_step x h s (by omega)
theorem itl_32 (x : Int) (h : U32 x) : itl 32 x = x := by
  show rotl1 (itl 31 x) = x
  rw [itl_form x h 31 (by omega)]
  unfold U32 at h
  unfold rotl1
  simp only [Nat.reduceSub, Int.reducePow]
  rcases (show x % 2 = 0 ∨ x % 2 = 1 by omega) with e | e <;> omega
theorem itl_mod (x : Int) (h : U32 x) (n : Nat) : itl n x = itl (n % 32) x := by
  have key : ∀ q r : Nat, itl (32 * q + r) x = itl r x := by
    intro q
    induction q with
    | zero => intro r; rw [Nat.mul_zero, Nat.zero_add]
    | succ q ih => intro r; rw [show 32 * (q + 1) + r = 32 + (32 * q + r) by omega, itl_add 32, itl_32 _ (itl_u _ x h), ih r]
  have h2 := key (n / 32) (n % 32)
  rwa [Nat.div_add_mod] at h2
theorem tmod_form (n b : Int) (hb : 0 < b) : ∃ q, n = b * q + Int.tmod n b ∧ -b < Int.tmod n b ∧ Int.tmod n b < b := by
  refine ⟨Int.tdiv n b, (Int.mul_tdiv_add_tmod n b).symm, ?_, Int.tmod_lt_of_pos n hb⟩
  have h := Int.tmod_lt_of_pos (-n) hb
  rw [Int.neg_tmod] at h
  omega
theorem u64_and31 (a : Int) : Go.bits .and .u64 (IntKind.u64.wrap a) 31 = a % 32 := by
  have h := bits_mask .u64 64 (by decide) wraps_u64 5 (by decide) (a % 18446744073709551616) (by omega) (by omega)
  rw [u64w]
  have e : ((2 : Int) ^ 5 - 1) = 31 := by decide
  have e2 : ((2 : Int) ^ 5) = 32 := by decide
  rw [e, e2] at h
  rw [h]; omega
theorem rotate_f (x a : Int) (h : U32 x) : bits_RotateLeft32.f x a = some (itl (a % 32).toNat x) := by
  obtain ⟨s, hs⟩ : ∃ s : Nat, a % 32 = (s : Int) := ⟨(a % 32).toNat, by omega⟩
  have hlt : s < 32 := by omega
  unfold bits_RotateLeft32.f
  rw [u64_and31, hs, if_pos (by omega), u64w, show (32 - (s : Int)) % 18446744073709551616 = ((32 - s : Nat) : Int) by omega, if_pos (by omega), Int.toNat_natCast, itl_form x h s hlt]
  have e1 : shl .u32 x (s : Int) = (x * 2 ^ s) % 4294967296 := by
    unfold shl; rw [Int.toNat_natCast, IntKind.wrap_u32, show min s IntKind.u32.bits = s from Nat.min_eq_left (Nat.le_of_lt hlt)]
  have e2 : shr .u32 x ((32 - s : Nat) : Int) = x / 2 ^ (32 - s) := by
    unfold shr; rw [Int.toNat_natCast, show min (32 - s) IntKind.u32.bits = 32 - s from Nat.min_eq_left (Nat.sub_le _ _)]
  rw [e1, e2]
  have hp : (0 : Int) < 2 ^ (32 - s) := Int.pow_pos (by omega)
  have hq : (0 : Int) < 2 ^ s := Int.pow_pos (by omega)
  have hpq : (2 : Int) ^ s * 2 ^ (32 - s) = 4294967296 := by
    rw [← Int.pow_add, show s + (32 - s) = 32 by omega]; rfl
  have hlt2 : x / 2 ^ (32 - s) < 2 ^ s := by
    refine Int.ediv_lt_of_lt_mul hp ?_
    rw [hpq]; exact h.2
  have h0 : 0 ≤ x / 2 ^ (32 - s) := Int.ediv_nonneg h.1 (by omega)
  have hle : x / 2 ^ (32 - s) ≤ x := Int.ediv_le_self _ h.1
  have hm : ((x * 2 ^ s) % 4294967296) % 2 ^ s = 0 := by
    rw [Int.emod_emod_of_dvd _ ⟨2 ^ (32 - s), hpq.symm⟩, Int.mul_emod_left]
  unfold U32 at h
  rw [bits_join .u32 32 (by decide) wraps_u32 s _ _ (by omega) hm (by omega) h0 hlt2 (by omega)]
theorem rot_f (x n : Int) (h : U32 x) : word_Rot.f x n = some (itl ((-n) % 32).toNat x) := by
  obtain ⟨q, h1, h2, h3⟩ := tmod_form n 32 (by omega)
  unfold word_Rot.f
  rw [wrap64_id (by omega) (by omega), rotate_f _ _ h]
  simp only [Option.bind_some]
  rw [show (-Int.tmod n 32) % 32 = (-n) % 32 by omega]

/-! the hash -/
theorem u32_mod (x : Int) : U32 (x % 4294967296) := by unfold U32; omega
theorem u32_wrap (x : Int) : U32 (IntKind.u32.wrap x) := by rw [IntKind.wrap_u32]; exact u32_mod x
theorem bits_u (op : BinOp) (x y : Int) : U32 (Go.bits op .u32 x y) := by
  exact u32_wrap _
def rr (n : Int) (x : Int) : Int := itl ((-n) % 32).toNat x
def xo (a b c : Int) : Int := Go.bits .xor .u32 (Go.bits .xor .u32 a b) c
theorem turned_f (x a b c : Int) (h : U32 x) : sha_turned.f x a b c = some (xo (rr a x) (rr b x) (rr c x)) := by
  unfold sha_turned.f
  rw [rot_f x a h, rot_f x b h, rot_f x c h]
  rfl
theorem rd_word {l : List Int} (h : Words l) (i : Int) : U32 (rd l i) := by
  unfold rd
  rw [List.getD_eq_getElem?_getD]
  rcases Nat.lt_or_ge i.toNat l.length with hl | hl
  · rw [List.getElem?_eq_getElem hl]; exact h _ (List.getElem_mem hl)
  · rw [List.getElem?_eq_none hl]; unfold U32; simp
def nextw (w : List Int) : Int := let t := (w.length : Int); (((xo (rr 17 (rd w (t - 2))) (rr 19 (rd w (t - 2))) ((rd w (t - 2)) / 1024) + rd w (t - 7)) % 4294967296 + xo (rr 7 (rd w (t - 15))) (rr 18 (rd w (t - 15))) ((rd w (t - 15)) / 8)) % 4294967296 + rd w (t - 16)) % 4294967296
def grow : Nat → List Int → List Int
  | 0, w => w
  | n + 1, w => grow n (w ++ [nextw w])
theorem grow_len : ∀ n w, (grow n w).length = w.length + n
  | 0, _ => rfl
  | n + 1, w => by unfold grow; rw [grow_len n]; simp; omega
theorem grow_words : ∀ n w, Words w → Words (grow n w)
  | 0, _, h => h
  | n + 1, w, h => by
    unfold grow
    refine grow_words n _ (fun x hx => ?_)
    rcases List.mem_append.1 hx with hx | hx
    · exact h x hx
    · rw [List.mem_singleton.1 hx]; unfold nextw; exact u32_mod _
theorem sched_l0 : ∀ (n k : Nat) (w : List Int), w.length + n = 64 → 16 ≤ w.length → Words w → n < k → sha_schedule.l0 k w (w.length : Int) = some (grow n w)
  | 0, k, w, hl, h16, hw, hk => by
    obtain ⟨k, rfl⟩ := ex_succ hk
    unfold sha_schedule.l0
    rw [if_neg (by omega)]; rfl
  | n + 1, k, w, hl, h16, hw, hk => by
    obtain ⟨k, rfl⟩ := ex_succ hk
    unfold sha_schedule.l0
    have e15 : wrap64 ((w.length : Int) - 15) = (w.length : Int) - 15 := wrap64_id (by omega) (by omega)
    have e2 : wrap64 ((w.length : Int) - 2) = (w.length : Int) - 2 := wrap64_id (by omega) (by omega)
    have e7 : wrap64 ((w.length : Int) - 7) = (w.length : Int) - 7 := wrap64_id (by omega) (by omega)
    have e16 : wrap64 ((w.length : Int) - 16) = (w.length : Int) - 16 := wrap64_id (by omega) (by omega)
    have e1 : wrap64 ((w.length : Int) + 1) = ((w ++ [nextw w]).length : Int) := by rw [wrap64_id (by omega) (by omega)]; simp
    rw [if_pos (by omega), e15, e2, e7, e16, if_pos (by omega), if_pos (by omega), if_pos (by omega), if_pos (by omega), rot_f _ _ (rd_word hw _), rot_f _ _ (rd_word hw _), rot_f _ _ (rd_word hw _), rot_f _ _ (rd_word hw _)]
    simp only [Option.bind_some]
    rw [if_pos (by omega), if_pos (by omega), if_pos (by omega), if_pos (by omega), if_pos (by omega), e1]
    exact sched_l0 n k (w ++ [nextw w]) (by simp; omega) (by simp; omega) (fun x hx => by
      rcases List.mem_append.1 hx with hx | hx
      · exact hw x hx
      · rw [List.mem_singleton.1 hx]; unfold nextw; exact u32_mod _) (by omega)
theorem words_words : ∀ (n : Nat) (l : List Int), l.length ≤ n → Words (wordsOf l) := by
  intro n
  induction n with
  | zero => intro l hl; obtain rfl := List.eq_nil_of_length_eq_zero (Nat.le_zero.1 hl); intro x hx; simp [wordsOf] at hx
  | succ n ih =>
    intro l hl x hx
    match l, hl, hx with
    | a :: b :: c :: d :: t, hl, hx =>
      simp only [wordsOf, List.mem_cons] at hx
      rcases hx with rfl | hx
      · exact u32_mod _
      · exact ih t (by simp at hl; omega) x hx
    | [], _, hx => simp [wordsOf] at hx
    | [a], _, hx => simp [wordsOf] at hx
    | [a, b], _, hx => simp [wordsOf] at hx
    | [a, b, c], _, hx => simp [wordsOf] at hx
theorem words_len : ∀ (n : Nat) (l : List Int), l.length = 4 * n → (wordsOf l).length = n
  | 0, l, hl => by obtain rfl := List.eq_nil_of_length_eq_zero (by omega); rfl
  | n + 1, l, hl => by
    match l, hl with
    | a :: b :: c :: d :: t, hl =>
      simp only [wordsOf, List.length_cons]
      rw [words_len n t (by simp at hl; omega)]
    | [], hl => simp at hl
    | [a], hl => simp at hl; omega
    | [a, b], hl => simp at hl; omega
    | [a, b, c], hl => simp at hl; omega
def sched (b : List Int) : List Int := grow 48 (wordsOf b)
theorem sched_f (b : List Int) (hb : Bytes b) (hl : b.length = 64) (k : Nat) (hk : 80 ≤ k) : sha_schedule.f k b = some (sched b) := by
  unfold sha_schedule.f
  rw [words_f b hb k (by omega) (by omega)]
  simp only [Option.bind_some]
  have h16 : (wordsOf b).length = 16 := words_len 16 b (by omega)
  have h := sched_l0 48 k (wordsOf b) (by omega) (by omega) (words_words _ b (Nat.le_refl _)) (by omega)
  rw [h16] at h
  exact h
/-- The rounds of a block. -/
def rnds (ws : List Int) : Nat → Nat → Int → Int → Int → Int → Int → Int → Int → Int → List Int
  | 0, _, a, b, c, d, e, f, g, h => [a, b, c, d, e, f, g, h]
  | n + 1, i, a, b, c, d, e, f, g, h =>
    rnds ws n (i + 1) ((sb.x ws i e f g h (xo (rr 6 e) (rr 11 e) (rr 25 e)) + (xo (rr 2 a) (rr 13 a) (rr 22 a) + sb.mj a b c)) % 4294967296) a b c ((d + sb.x ws i e f g h (xo (rr 6 e) (rr 11 e) (rr 25 e))) % 4294967296) e f g
theorem sb_l0 (ws : List Int) (hl : ws.length = 64) : ∀ (n k i : Nat) (a b c d e f g h : Int), i + n = 64 → U32 a → U32 b → U32 c → U32 d → U32 e → U32 f → U32 g → U32 h → n < k → sb.l0 k ws i a b c d e f g h = some (rnds ws n i a b c d e f g h)
  | 0, k, i, a, b, c, d, e, f, g, h, hi, _, _, _, _, _, _, _, _, hk => by
    obtain ⟨k, rfl⟩ := ex_succ hk
    unfold sb.l0
    rw [if_neg (by omega)]; rfl
  | n + 1, k, i, a, b, c, d, e, f, g, h, hi, ha, hb, hc, hd, he, hf, hg, hh, hk => by
    obtain ⟨k, rfl⟩ := ex_succ hk
    unfold sb.l0
    rw [if_pos (by omega), if_pos (by omega), turned_f e 6 11 25 he, turned_f a 2 13 22 ha]
    simp only [Option.bind_some]
    exact sb_l0 ws hl n k (i + 1) _ _ _ _ _ _ _ _ (by omega) (u32_mod _) ha hb hc (u32_mod _) he hf hg (by omega)
def compress (s b : List Int) : List Int := sb.fin s (rnds (sched b) 64 0 (s[0]?.getD 0) (s[1]?.getD 0) (s[2]?.getD 0) (s[3]?.getD 0) (s[4]?.getD 0) (s[5]?.getD 0) (s[6]?.getD 0) (s[7]?.getD 0))
theorem u32_at {s : List Int} (h : Words s) (i : Nat) : U32 (s[i]?.getD 0) := by
  rcases Nat.lt_or_ge i s.length with hl | hl
  · rw [List.getElem?_eq_getElem hl]; exact h _ (List.getElem_mem hl)
  · rw [List.getElem?_eq_none hl]; unfold U32; simp
theorem compress_f (s b : List Int) (hs : Words s) (hb : Bytes b) (hl : b.length = 64) (k : Nat) (hk : 80 ≤ k) : sb.f k s b = some (compress s b) := by
  unfold sb.f
  rw [if_pos hl, sched_f b hb hl k hk]
  simp only [Option.bind_some]
  have hsl : (sched b).length = 64 := by unfold sched; rw [grow_len, words_len 16 b (by omega)]
  rw [sb_l0 (sched b) hsl 64 65 0 _ _ _ _ _ _ _ _ rfl (u32_at hs 0) (u32_at hs 1) (u32_at hs 2) (u32_at hs 3) (u32_at hs 4) (u32_at hs 5) (u32_at hs 6) (u32_at hs 7) (by omega)]
  rfl
theorem compress_words (s b : List Int) : Words (compress s b) := by
  intro x hx
  unfold compress sb.fin at hx
  simp only [List.mem_cons, List.not_mem_nil, or_false] at hx
  rcases hx with rfl | rfl | rfl | rfl | rfl | rfl | rfl | rfl <;> exact u32_mod _
theorem compress_len (s b : List Int) : (compress s b).length = 8 := rfl
/-- The blocks of a text, and what is left. -/
def feed : Nat → List Int → List Int → List Int × List Int
  | 0, s, al => (s, al)
  | n + 1, s, al => if 64 ≤ al.length then feed n (compress s (al.take 64)) (al.drop 64) else (s, al)
theorem mo_l0 (k : Nat) (hk : 80 ≤ k) : ∀ (n : Nat) (s al : List Int), Words s → Bytes al → al.length < 64 * n → mo.l0 k n s al = some (feed n s al)
  | 0, s, al, _, _, hl => by omega
  | n + 1, s, al, hs, hb, hl => by
    unfold mo.l0 feed
    by_cases h : 64 ≤ al.length
    · rw [if_pos h, if_pos h, compress_f s _ hs (hb.take 64) (by rw [List.length_take]; omega) k hk]
      simp only [Option.bind_some]
      exact mo_l0 k hk n _ _ (compress_words _ _) (hb.drop 64) (by rw [List.length_drop]; omega)
    · rw [if_neg h, if_neg h]
theorem feed_left : ∀ (n : Nat) (s al : List Int), al.length < 64 * n → Words s → Bytes al → (feed n s al).2.length < 64 ∧ Words (feed n s al).1 ∧ Bytes (feed n s al).2 ∧ (feed n s al).2.length = al.length % 64
  | 0, _, _, hl, _, _ => by omega
  | n + 1, s, al, hl, hs, hb => by
    unfold feed
    by_cases h : 64 ≤ al.length
    · rw [if_pos h]
      have hd : (al.drop 64).length = al.length - 64 := List.length_drop
      have := feed_left n (compress s (al.take 64)) (al.drop 64) (by omega) (compress_words _ _) (hb.drop 64)
      rw [hd] at this
      exact ⟨this.1, this.2.1, this.2.2.1, by rw [this.2.2.2]; omega⟩
    · rw [if_neg h]
      exact ⟨by show al.length < 64; omega, hs, hb, by show al.length = _; omega⟩
def finish (s lr : List Int) (m : Int) : List Int := if lr.length < 56 then compress s ((en.last lr).take 56 ++ p8 (m * 8 % 18446744073709551616)) else compress (compress s (en.last lr)) (z64.take 56 ++ p8 (m * 8 % 18446744073709551616))
theorem last_len (lr : List Int) (h : lr.length < 64) : (en.last lr).length = 64 := by unfold en.last; simp; omega
theorem last_bytes (lr : List Int) (hb : Bytes lr) : Bytes (en.last lr) := by
  intro x hx
  unfold en.last at hx
  rcases List.mem_or_eq_of_mem_set hx with hx | rfl
  · rcases List.mem_append.1 hx with hx | hx
    · exact hb x hx
    · rw [(List.mem_replicate.1 hx).2]; omega
  · omega
theorem bytes_app {a b : List Int} (ha : Bytes a) (hb : Bytes b) : Bytes (a ++ b) := fun x hx => (List.mem_append.1 hx).elim (ha x) (hb x)
theorem z64_bytes : Bytes z64 := fun x hx => by rw [(List.mem_replicate.1 hx).2]; omega
theorem n8_of {s : List Int} (h : s.length = 8) : n8 s = s := by
  match s, h with
  | [a, b, c, d, e, f, g, i], _ => rfl
theorem n8_words {s : List Int} (h : Words s) : Words (n8 s) := by
  intro x hx
  unfold n8 at hx
  simp only [List.mem_cons, List.not_mem_nil, or_false] at hx
  rcases hx with rfl | rfl | rfl | rfl | rfl | rfl | rfl | rfl <;> exact u32_at h _
theorem finish_f (s lr : List Int) (m : Int) (hs : Words s) (hs8 : s.length = 8) (hb : Bytes lr) (hl : lr.length < 64) (k : Nat) (hk : 80 ≤ k) : en.f k s lr m = some (bytesOf (finish s lr m)) := by
  have hu : U64 (m * 8 % 18446744073709551616) := by unfold U64; omega
  unfold en.f finish
  rw [if_pos hl, put_f _ hu k (by omega), n8_of hs8]
  simp only [Option.bind_some]
  rw [if_pos (p8_len _)]
  have hb8 : ∀ x, (bytesOf x).length = (bytesOf x).length := fun _ => rfl
  by_cases h56 : lr.length < 56
  · rw [if_pos h56, if_pos h56, compress_f s _ hs (bytes_app ((last_bytes lr hb).take 56) (p8_bytes _)) (by rw [List.length_append, List.length_take, last_len lr hl, p8_len]; rfl) k hk]
    simp only [Option.bind_some]
    exact bytes_f _ (by rw [compress_len]; omega) k (by rw [compress_len]; omega)
  · rw [if_neg h56, if_neg h56, compress_f s _ hs (last_bytes lr hb) (last_len lr hl) k hk]
    simp only [Option.bind_some]
    rw [compress_f _ _ (compress_words _ _) (bytes_app (z64_bytes.take 56) (p8_bytes _)) (by rw [List.length_append, List.length_take, p8_len]; rfl) k hk]
    simp only [Option.bind_some]
    exact bytes_f _ (by rw [compress_len]; omega) k (by rw [compress_len]; omega)
def shaSum (l : List Int) : List Int := bytesOf (finish (feed (l.length + 1) shaF l).1 (feed (l.length + 1) shaF l).2 ((l.length : Int) % 18446744073709551616))
theorem shaF_words : Words shaF := by
  intro x hx
  unfold shaF at hx
  simp only [List.mem_cons, List.not_mem_nil, or_false] at hx
  omega
theorem feed_len8 : ∀ (n : Nat) (s al : List Int), s.length = 8 → (feed n s al).1.length = 8
  | 0, _, _, h => h
  | n + 1, s, al, h => by
    unfold feed
    split
    · exact feed_len8 n _ _ (compress_len _ _)
    · exact h
theorem sum_f (l : List Int) (hb : Bytes l) (hl : l.length < 140737488355328) (k : Nat) (hk : 80 ≤ k) : sha_Sum.f k l = some (shaSum l) := by
  show sm.f k l = _
  unfold sm.f mo.f
  rw [List.nil_append, if_pos ⟨by simp, hl⟩, mo_l0 k hk (l.length + 1) shaF l shaF_words hb (by omega)]
  simp only [Option.bind_some]
  have h := feed_left (l.length + 1) shaF l (by omega) shaF_words hb
  exact finish_f _ _ _ h.2.1 (feed_len8 _ _ _ rfl) h.2.2.1 h.1 k hk
theorem bytesOf_len : ∀ l : List Int, (bytesOf l).length = 4 * l.length
  | [] => rfl
  | a :: t => by
    simp only [bytesOf, List.length_append, List.length_cons]
    rw [bytesOf_len t]
    show 4 + _ = _
    omega
theorem sum_len (l : List Int) : (shaSum l).length = 32 := by
  unfold shaSum finish
  rw [bytesOf_len]
  split <;> rfl
theorem sum_bytes (l : List Int) : Bytes (shaSum l) := bytesOf_bytes _
/-! a key's block, and a tag -/
theorem hfun : (fun k l => hmac_Block.f k l) = (fun k l => hmac_Block.f k l) := rfl
theorem pad_len (l : List Int) (h : l.length ≤ 64) : (hmac_Block.pad l).length = 64 := by
  unfold hmac_Block.pad
  simp
  omega
theorem pad_bytes (l : List Int) (h : Bytes l) : Bytes (hmac_Block.pad l) := by
  unfold hmac_Block.pad
  exact bytes_app (h.take 64) (Bytes.drop (fun x hx => by rw [(List.mem_replicate.1 hx).2]; omega) _)
theorem pad_form (l : List Int) (h : l.length ≤ 64) : hmac_Block.pad l = l ++ List.replicate (64 - l.length) 0 := by
  unfold hmac_Block.pad
  rw [List.take_of_length_le h, Nat.min_eq_left h, List.drop_replicate]
theorem pad_64 (l : List Int) (h : l.length = 64) : hmac_Block.pad l = l := by
  rw [pad_form l (by omega), h]
  simp
theorem pad_zero (l : List Int) (h : l.length < 64) : hmac_Block.pad (l ++ [0]) = hmac_Block.pad l := by
  rw [pad_form _ (by simp; omega), pad_form l (by omega), List.append_assoc]
  congr 1
  rw [List.length_append, List.length_singleton, show 64 - l.length = (64 - (l.length + 1)) + 1 by omega]
  rfl
def hblock (key : List Int) : List Int := if 64 < key.length then hmac_Block.pad (shaSum key) else hmac_Block.pad key
theorem hblock_len (key : List Int) : (hblock key).length = 64 := by
  unfold hblock
  split
  · exact pad_len _ (by rw [sum_len]; omega)
  · exact pad_len _ (by omega)
theorem hblock_bytes (key : List Int) (h : Bytes key) : Bytes (hblock key) := by
  unfold hblock
  split
  · exact pad_bytes _ (sum_bytes _)
  · exact pad_bytes _ h
theorem hblock_f (key : List Int) (hb : Bytes key) (hl : key.length < 140737488355328) (k : Nat) (hk : 80 ≤ k) : hmac_Block.f k key = some (hblock key) := by
  unfold hmac_Block.f hblock
  split
  · rw [sum_f key hb hl k hk]; rfl
  · rfl
theorem xor_byte (x y : Int) (hx : 0 ≤ x ∧ x ≤ 255) (hy : 0 ≤ y ∧ y ≤ 255) : 0 ≤ Go.bits .xor .u8 x y ∧ Go.bits .xor .u8 x y ≤ 255 := by
  unfold Go.bits
  rw [IntKind.wrap_u8]
  omega
theorem turn_l0 (x : Int) (n : Nat) : ∀ (d k i : Nat) (l : List Int), l.length = n → i + d = n → n ≤ 9223372036854775806 → d < k → hmac_turned.l0 k x l (n : Int) (i : Int) = some (l.take i ++ (l.drop i).map (fun y => Go.bits .xor .u8 y x))
  | 0, k, i, l, hl, hi, hn, hk => by
    obtain ⟨k, rfl⟩ := ex_succ hk
    unfold hmac_turned.l0
    rw [if_neg (by omega), List.take_of_length_le (by omega), List.drop_of_length_le (by omega)]
    simp
  | d + 1, k, i, l, hl, hi, hn, hk => by
    obtain ⟨k, rfl⟩ := ex_succ hk
    unfold hmac_turned.l0
    have hlt : i < l.length := by omega
    rw [if_pos (by omega), if_pos (by omega), if_pos (by omega), wrap64_id (by omega) (by omega), rd_at i hlt, Int.toNat_natCast]
    have h := turn_l0 x n d k (i + 1) (l.set i (Go.bits .xor .u8 l[i] x)) (by rw [List.length_set]; exact hl) (by omega) hn (by omega)
    rw [show ((i : Int) + 1) = ((i + 1 : Nat) : Int) by omega, h]
    congr 1
    rw [List.drop_set_of_lt (by omega), List.take_add_one, List.getElem?_set_self hlt, List.take_set, List.set_eq_of_length_le (by rw [List.length_take]; omega), List.drop_eq_getElem_cons hlt]
    simp
    rw [List.drop_eq_getElem_cons (l := l.map (fun y => Go.bits .xor .u8 y x)) (i := i) (by simpa using hlt)]
    simp
def turnBy (x : Int) (l : List Int) : List Int := l.map fun y => Go.bits .xor .u8 y x
theorem turned_hf (key : List Int) (x : Int) (hb : Bytes key) (hl : key.length < 140737488355328) (k : Nat) (hk : 80 ≤ k) : hmac_turned.f k key x = some (turnBy x (hblock key)) := by
  unfold hmac_turned.f
  rw [hblock_f key hb hl k hk]
  simp only [Option.bind_some]
  have h := turn_l0 x (hblock key).length (hblock key).length k 0 (hblock key) rfl (by omega) (by rw [hblock_len]; omega) (by rw [hblock_len]; omega)
  rw [show (0 : Int) = ((0 : Nat) : Int) from rfl, h]
  rfl
theorem turn_bytes (x : Int) (l : List Int) (hx : 0 ≤ x ∧ x ≤ 255) (h : Bytes l) : Bytes (turnBy x l) := by
  intro y hy
  obtain ⟨z, hz, rfl⟩ := List.mem_map.1 hy
  exact xor_byte z x (h z hz) hx
theorem concat2 (a b : List Int) (h : a.length + b.length < 140737488355328) : slices_Concat_byte_byte.f [a, b] = some (a ++ b) := by
  unfold slices_Concat_byte_byte.f
  rw [if_pos ⟨by simp, by simpa using h⟩]
  simp
def macOf (block msg : List Int) : List Int := shaSum (turnBy 92 block ++ shaSum (turnBy 54 block ++ msg))
theorem mac_f (key msg : List Int) (hb : Bytes key) (hm : Bytes msg) (hl : key.length < 1000000) (hlm : msg.length < 1000000) (k : Nat) (hk : 80 ≤ k) : hmac_Mac.f k key msg = some (macOf (hblock key) msg) := by
  have l1 : (turnBy 54 (hblock key)).length = 64 := by unfold turnBy; rw [List.length_map, hblock_len]
  have l2 : (turnBy 92 (hblock key)).length = 64 := by unfold turnBy; rw [List.length_map, hblock_len]
  have b1 := turn_bytes 54 _ (by omega) (hblock_bytes key hb)
  have b2 := turn_bytes 92 _ (by omega) (hblock_bytes key hb)
  unfold hmac_Mac.f
  rw [turned_hf key 54 hb (by omega) k hk]
  simp only [Option.bind_some]
  rw [concat2 _ _ (by omega)]
  simp only [Option.bind_some]
  rw [sum_f _ (bytes_app b1 hm) (by rw [List.length_append]; omega) k hk]
  simp only [Option.bind_some]
  rw [turned_hf key 92 hb (by omega) k hk]
  simp only [Option.bind_some]
  rw [concat2 _ _ (by rw [sum_len]; omega)]
  simp only [Option.bind_some]
  rw [sum_f _ (bytes_app b2 (sum_bytes _)) (by rw [List.length_append, sum_len]; omega) k hk]
  rfl
def itr : Nat → Int → Int
  | 0, x => x
  | n + 1, x => itr n (rotr1 x)
theorem itr_u : ∀ (n : Nat) (x : Int), U32 x → U32 (itr n x)
  | 0, _, h => h
  | n + 1, x, h => itr_u n _ (rotr1_u x h)
theorem itl_itr : ∀ (n : Nat) (x : Int), U32 x → itl n (itr n x) = x
  | 0, _, _ => rfl
  | n + 1, x, h => by
    simp only [itl, itr]
    rw [itl_itr n _ (rotr1_u x h), rot_lr x h]
theorem itr_itl (n : Nat) (x : Int) (h : U32 x) (hn : n ≤ 32) : itr n x = itl (32 - n) x := by
  have h1 := itl_add (32 - n) n (itr n x)
  rw [itl_itr n x h, show 32 - n + n = 32 by omega, itl_32 _ (itr_u n x h)] at h1
  exact h1
theorem refRot_l0 (m : Nat) (hm : m < 32) : ∀ (d k : Nat) (y : Int) (i : Nat), U32 y → i + d = m → d < k → wristbandref01_Rot.l0 k y (m : Int) (i : Int) = some (itr d y) := by
  intro d
  induction d with
  | zero =>
    intro k y i hy hi hk
    obtain ⟨k, rfl⟩ := ex_succ hk
    simp only [wristbandref01_Rot.l0]
    rw [if_neg (by omega)]; rfl
  | succ d ih =>
    intro k y i hy hi hk
    obtain ⟨k, rfl⟩ := ex_succ hk
    have hy' := hy
    unfold U32 at hy'
    have e0 : Int.tmod y 2 = y % 2 := tmod_nn hy'.1
    have e1 : Int.tdiv y 2 = y / 2 := tdiv_nn hy'.1
    simp only [wristbandref01_Rot.l0, e0, e1]
    rw [if_pos (by omega)]
    have hw : wrap64 ((i : Int) + 1) = ((i + 1 : Nat) : Int) := by rw [wrap64_id (by omega) (by omega)]; omega
    have key := ih k (rotr1 y) (i + 1) (rotr1_u y hy) (by omega) (by omega)
    rw [hw]
    clear hw
    by_cases h : y % 2 = 1
    · rw [if_pos h, show (y / 2 % 4294967296 + 2147483648) % 4294967296 = rotr1 y by unfold rotr1; omega, key]; rfl
    · rw [if_neg h, show y / 2 % 4294967296 = rotr1 y by unfold rotr1; omega, key]; rfl
theorem refRot_f (x n : Int) (h : U32 x) (k : Nat) (hk : 40 ≤ k) : wristbandref01_Rot.f k x n = some (itl ((-n) % 32).toNat x) := by
  obtain ⟨q, h1, h2, h3⟩ := tmod_form n 32 (by omega)
  obtain ⟨k, rfl⟩ := ex_succ (show 0 < k by omega)
  have main : ∀ m : Nat, m < 32 → (m : Int) = n % 32 → wristbandref01_Rot.j0 (k + 1) x (m : Int) = some (itl ((-n) % 32).toNat x) := by
    intro m hm e
    simp only [wristbandref01_Rot.j0]
    rw [show (0 : Int) = ((0 : Nat) : Int) from rfl, refRot_l0 m hm m k x 0 h (by omega) (by omega), itr_itl m x h (by omega), itl_mod x h (32 - m), show (32 - m) % 32 = ((-n) % 32).toNat by omega]
  unfold wristbandref01_Rot.f
  by_cases hneg : Int.tmod n 32 < 0
  · rw [if_pos hneg, wrap64_id (by omega) (by omega), show Int.tmod n 32 + 32 = ((n % 32).toNat : Int) by omega]
    exact main _ (by omega) (by omega)
  · rw [if_neg hneg, show Int.tmod n 32 = ((n % 32).toNat : Int) by omega]
    exact main _ (by omega) (by omega)
theorem wordsOf_short (l : List Int) (h : l.length < 4) : wordsOf l = [] := by
  match l, h with
  | [], _ => rfl
  | [_], _ => rfl
  | [_, _], _ => rfl
  | [_, _, _], _ => rfl
  | _ :: _ :: _ :: _ :: t, h => simp only [List.length_cons] at h; omega
theorem drop4 (l : List Int) (i : Nat) (h : i + 3 < l.length) : l.drop i = rd l (i : Int) :: rd l ((i + 1 : Nat) : Int) :: rd l ((i + 2 : Nat) : Int) :: rd l ((i + 3 : Nat) : Int) :: l.drop (i + 4) := by
  rw [rd_at i (by omega), rd_at (i + 1) (by omega), rd_at (i + 2) (by omega), rd_at (i + 3) (by omega), List.drop_eq_getElem_cons (show i < l.length by omega), List.drop_eq_getElem_cons (show i + 1 < l.length by omega), List.drop_eq_getElem_cons (show i + 1 + 1 < l.length by omega), List.drop_eq_getElem_cons (show i + 1 + 1 + 1 < l.length by omega)]
theorem word4 (a b c d : Int) (ha : 0 ≤ a ∧ a ≤ 255) (hb : 0 ≤ b ∧ b ≤ 255) (hc : 0 ≤ c ∧ c ≤ 255) (hd : 0 ≤ d ∧ d ≤ 255) :
    (((((((16777216 * (a % 4294967296)) % 4294967296) + ((65536 * (b % 4294967296)) % 4294967296)) % 4294967296) + ((256 * (c % 4294967296)) % 4294967296)) % 4294967296) + (d % 4294967296)) % 4294967296 = val [a, b, c, d] % 4294967296 := by
  simp only [val, List.foldl, vs]; omega
theorem refWords_l0 (l : List Int) (hb : Bytes l) (hl : l.length ≤ 140737488351232) : ∀ (d k : Nat) (out : List Int) (i : Nat), l.length ≤ i + d → i ≤ l.length → d < k → out.length + (l.length - i) / 4 < 35184372088832 → wristbandref01_Words.l0 k l out (i : Int) = some (out ++ wordsOf (l.drop i)) := by
  intro d
  induction d with
  | zero =>
    intro k out i hi hi2 hk ho
    obtain ⟨k, rfl⟩ := ex_succ hk
    have hw : wrap64 ((i : Int) + 3) = ((i + 3 : Nat) : Int) := by rw [wrap64_id (by omega) (by omega)]; omega
    simp only [wristbandref01_Words.l0, hw]
    clear hw
    rw [if_neg (by omega), List.drop_eq_nil_of_le (by omega), wordsOf_short [] (by simp), List.append_nil]
  | succ d ih =>
    intro k out i hi hi2 hk ho
    obtain ⟨k, rfl⟩ := ex_succ hk
    have hw1 : wrap64 ((i : Int) + 1) = ((i + 1 : Nat) : Int) := by rw [wrap64_id (by omega) (by omega)]; omega
    have hw2 : wrap64 ((i : Int) + 2) = ((i + 2 : Nat) : Int) := by rw [wrap64_id (by omega) (by omega)]; omega
    have hw3 : wrap64 ((i : Int) + 3) = ((i + 3 : Nat) : Int) := by rw [wrap64_id (by omega) (by omega)]; omega
    have hw4 : wrap64 ((i : Int) + 4) = ((i + 4 : Nat) : Int) := by rw [wrap64_id (by omega) (by omega)]; omega
    simp only [wristbandref01_Words.l0, hw1, hw2, hw3, hw4]
    clear hw1 hw2 hw3 hw4
    by_cases h : i + 3 < l.length
    · rw [if_pos (by omega), if_pos (by omega), if_pos (by omega), if_pos (by omega), if_pos (by omega), if_pos (by omega), if_pos (by omega), if_pos (by omega), if_pos (by omega), word4 _ _ _ _ (rd_bytes hb _) (rd_bytes hb _) (rd_bytes hb _) (rd_bytes hb _), ih k _ (i + 4) (by omega) (by omega) (by omega) (by simp only [List.length_append, List.length_cons, List.length_nil]; omega), drop4 l i h]
      simp [wordsOf]
    · rw [if_neg (by omega), wordsOf_short _ (by rw [List.length_drop]; omega), List.append_nil]
theorem refWords_f (l : List Int) (hb : Bytes l) (hl : l.length ≤ 140737488351232) (k : Nat) (hk : l.length < k) : wristbandref01_Words.f k l = some (wordsOf l) := by
  unfold wristbandref01_Words.f
  rw [show (0 : Int) = ((0 : Nat) : Int) from rfl, refWords_l0 l hb hl l.length k [] 0 (by omega) (by omega) hk (by simp only [List.length_nil]; omega)]; simp
theorem ref4b (x : Int) (h0 : 0 ≤ x) (h1 : x < 4294967296) : [((Int.tdiv x 16777216) % 4294967296) % 256, ((Int.tdiv x 65536) % 4294967296) % 256, ((Int.tdiv x 256) % 4294967296) % 256, (Int.tmod x 256) % 256] = word4b x := by
  rw [tdiv_nn h0, tdiv_nn h0, tdiv_nn h0, tmod_nn h0]
  unfold word4b
  rw [show x / 16777216 % 4294967296 = x / 16777216 by omega, show x / 65536 % 4294967296 = x / 65536 by omega, show x / 256 % 4294967296 = x / 256 by omega, show x % 256 % 256 = x % 256 by omega]
theorem refBytes_l0 (l : List Int) (hw : Words l) (hl : l.length ≤ 35184372087808) : ∀ (d k : Nat) (out : List Int) (i : Nat), i + d = l.length → d < k → out.length + 4 * d < 140737488355328 → wristbandref01_Bytes.l0 k l out (i : Int) = some (out ++ bytesOf (l.drop i)) := by
  intro d
  induction d with
  | zero =>
    intro k out i hi hk ho
    obtain ⟨k, rfl⟩ := ex_succ hk
    simp only [wristbandref01_Bytes.l0]
    rw [if_neg (by omega), List.drop_eq_nil_of_le (by omega)]; simp [bytesOf]
  | succ d ih =>
    intro k out i hi hk ho
    obtain ⟨k, rfl⟩ := ex_succ hk
    have hw1 : wrap64 ((i : Int) + 1) = ((i + 1 : Nat) : Int) := by rw [wrap64_id (by omega) (by omega)]; omega
    have hr := rd_words hw i (by omega)
    simp only [wristbandref01_Bytes.l0, hw1, Option.bind_some, ref4b _ hr.1 hr.2]
    clear hw1
    rw [if_pos (by omega), if_pos (by omega), if_pos (by simp only [word4b, List.length_cons, List.length_nil]; omega), ih k _ (i + 1) (by omega) (by omega) (by simp only [word4b, List.length_append, List.length_cons, List.length_nil]; omega), drop_rd l i (by omega)]
    simp [bytesOf]
theorem refBytes_f (l : List Int) (hw : Words l) (hl : l.length ≤ 35184372087808) (k : Nat) (hk : l.length < k) : wristbandref01_Bytes.f k l = some (bytesOf l) := by
  unfold wristbandref01_Bytes.f
  rw [show wristbandref01_Bytes.l0 k l [] 0 = wristbandref01_Bytes.l0 k l [] ((0 : Nat) : Int) from rfl, refBytes_l0 l hw hl l.length k [] 0 (by omega) hk (by simp only [List.length_nil]; omega)]; simp
theorem refPut_step (k : Nat) (x : Int) (l : List Int) (i : Nat) (hi : i < 8) (hl : l.length = 8) (h : U64 x) : wristbandref01_Put.l0 (k + 1) x l (i : Int) = wristbandref01_Put.l0 k (x / 256) (l.set (7 - i) (x % 256)) ((i + 1 : Nat) : Int) := by
  unfold U64 at h
  have hw1 : wrap64 ((i : Int) + 1) = ((i + 1 : Nat) : Int) := by rw [wrap64_id (by omega) (by omega)]; omega
  have hw7 : wrap64 (7 - (i : Int)) = ((7 - i : Nat) : Int) := by rw [wrap64_id (by omega) (by omega)]; omega
  have e0 : Int.tmod x 256 = x % 256 := tmod_nn h.1
  have e1 : Int.tdiv x 256 = x / 256 := tdiv_nn h.1
  simp only [wristbandref01_Put.l0, hw1, hw7, e0, e1]
  clear hw1 hw7 e0 e1
  rw [if_pos (by omega), if_pos (by omega), if_pos (by omega), u64w, show x / 256 % 18446744073709551616 = x / 256 by omega, Int.toNat_natCast, show x % 256 % 256 = x % 256 by omega]
theorem u64_div {x : Int} (h : U64 x) : U64 (x / 256) := by unfold U64 at *; omega
theorem refPut_f (x : Int) (h : U64 x) (k : Nat) (hk : 9 ≤ k) : wristbandref01_Put.f k x = some (p8 x) := by
  obtain ⟨k, rfl⟩ : ∃ m, k = m + 1 + 1 + 1 + 1 + 1 + 1 + 1 + 1 + 1 := ⟨k - 9, by omega⟩
  have h1 := u64_div h
  have h2 := u64_div h1
  have h3 := u64_div h2
  have h4 := u64_div h3
  have h5 := u64_div h4
  have h6 := u64_div h5
  have h7 := u64_div h6
  unfold wristbandref01_Put.f
  rw [if_pos (by omega), show (0 : Int) = ((0 : Nat) : Int) from rfl, refPut_step _ _ _ 0 (by omega) (by simp) h, refPut_step _ _ _ 1 (by omega) (by simp) h1, refPut_step _ _ _ 2 (by omega) (by simp) h2, refPut_step _ _ _ 3 (by omega) (by simp) h3, refPut_step _ _ _ 4 (by omega) (by simp) h4, refPut_step _ _ _ 5 (by omega) (by simp) h5, refPut_step _ _ _ 6 (by omega) (by simp) h6, refPut_step _ _ _ 7 (by omega) (by simp) h7]
  simp only [wristbandref01_Put.l0]
  rw [if_neg (by omega)]
  unfold U64 at h
  show some [x / 256 / 256 / 256 / 256 / 256 / 256 / 256 % 256, x / 256 / 256 / 256 / 256 / 256 / 256 % 256, x / 256 / 256 / 256 / 256 / 256 % 256, x / 256 / 256 / 256 / 256 % 256, x / 256 / 256 / 256 % 256, x / 256 / 256 % 256, x / 256 % 256, x % 256] = _
  unfold p8
  rw [show x / 256 / 256 / 256 / 256 / 256 / 256 / 256 = x / 72057594037927936 by omega, show x / 256 / 256 / 256 / 256 / 256 / 256 = x / 281474976710656 by omega, show x / 256 / 256 / 256 / 256 / 256 = x / 1099511627776 by omega, show x / 256 / 256 / 256 / 256 = x / 4294967296 by omega, show x / 256 / 256 / 256 = x / 16777216 by omega, show x / 256 / 256 = x / 65536 by omega]
/-! the document's hash -/
theorem bits_and32 (x y : Int) : Go.bits .and .u32 x y = ((BitVec.ofInt 32 x &&& BitVec.ofInt 32 y).toNat : Int) := by
  have h := (BitVec.ofInt 32 x &&& BitVec.ofInt 32 y).isLt
  show IntKind.u32.wrap ((BitVec.ofInt 32 x &&& BitVec.ofInt 32 y).toNat : Int) = _
  rw [IntKind.wrap_u32]; omega
theorem bits_or32 (x y : Int) : Go.bits .or .u32 x y = ((BitVec.ofInt 32 x ||| BitVec.ofInt 32 y).toNat : Int) := by
  have h := (BitVec.ofInt 32 x ||| BitVec.ofInt 32 y).isLt
  show IntKind.u32.wrap ((BitVec.ofInt 32 x ||| BitVec.ofInt 32 y).toNat : Int) = _
  rw [IntKind.wrap_u32]; omega
theorem bits_xor32 (x y : Int) : Go.bits .xor .u32 x y = ((BitVec.ofInt 32 x ^^^ BitVec.ofInt 32 y).toNat : Int) := by
  have h := (BitVec.ofInt 32 x ^^^ BitVec.ofInt 32 y).isLt
  show IntKind.u32.wrap ((BitVec.ofInt 32 x ^^^ BitVec.ofInt 32 y).toNat : Int) = _
  rw [IntKind.wrap_u32]; omega
theorem ofInt_toNat32 (z : BitVec 32) : BitVec.ofInt 32 (z.toNat : Int) = z := by simp
theorem maj_eq (a b c : Int) : sb.mj a b c = Go.bits .or .u32 (Go.bits .or .u32 (Go.bits .and .u32 a b) (Go.bits .and .u32 a c)) (Go.bits .and .u32 b c) := by
  unfold sb.mj
  simp only [bits_and32, bits_or32, bits_xor32, ofInt_toNat32]
  congr 2
  apply BitVec.eq_of_getLsbD_eq
  intro i _
  simp only [BitVec.getLsbD_and, BitVec.getLsbD_or, BitVec.getLsbD_xor]
  cases (BitVec.ofInt 32 a).getLsbD i <;> cases (BitVec.ofInt 32 b).getLsbD i <;> cases (BitVec.ofInt 32 c).getLsbD i <;> rfl
theorem not_eq (e : Int) (h : U32 e) : Go.bits .xor .u32 IntKind.u32.max e = (4294967295 - e) % 4294967296 := by
  unfold U32 at h
  rw [bits_xor32, show BitVec.ofInt 32 IntKind.u32.max = BitVec.allOnes 32 from by decide, BitVec.allOnes_xor, BitVec.toNat_not, BitVec.toNat_ofInt]
  omega
theorem ch_eq (e f g : Int) (h : U32 e) : sb.ch e f g = Go.bits .or .u32 (Go.bits .and .u32 e f) (Go.bits .and .u32 ((4294967295 - e) % 4294967296) g) := by
  unfold sb.ch
  rw [← not_eq e h]
  simp only [bits_and32, bits_or32, bits_xor32, ofInt_toNat32, show BitVec.ofInt 32 IntKind.u32.max = BitVec.allOnes 32 from by decide, BitVec.allOnes_xor]
  congr 2
  apply BitVec.eq_of_getLsbD_eq
  intro i hi
  simp only [BitVec.getLsbD_and, BitVec.getLsbD_or, BitVec.getLsbD_xor, BitVec.getLsbD_not, hi, decide_true, Bool.true_and]
  cases (BitVec.ofInt 32 e).getLsbD i <;> cases (BitVec.ofInt 32 f).getLsbD i <;> cases (BitVec.ofInt 32 g).getLsbD i <;> rfl
def hv : Nat → Int → Int
  | 0, x => x
  | n + 1, x => hv n (x / 2)
theorem down_l0 : ∀ (d k : Nat) (y : Int) (m i : Nat), U32 y → i + d = m → m < 100 → d < k → wristbandref02_down.l0 k y (m : Int) (i : Int) = some (hv d y)
  | 0, k, y, m, i, hy, hi, hm, hk => by
    obtain ⟨k, rfl⟩ := ex_succ hk
    simp only [wristbandref02_down.l0]
    rw [if_neg (by omega)]; rfl
  | d + 1, k, y, m, i, hy, hi, hm, hk => by
    obtain ⟨k, rfl⟩ := ex_succ hk
    have hy' := hy
    unfold U32 at hy'
    have e1 : Int.tdiv y 2 = y / 2 := tdiv_nn hy'.1
    have hw : wrap64 ((i : Int) + 1) = ((i + 1 : Nat) : Int) := by rw [wrap64_id (by omega) (by omega)]; omega
    simp only [wristbandref02_down.l0, hw, e1]
    clear hw
    rw [if_pos (by omega), show y / 2 % 4294967296 = y / 2 by omega, down_l0 d k (y / 2) m (i + 1) (by unfold U32; omega) (by omega) hm (by omega)]
    rfl
theorem down3 (y : Int) (h : U32 y) (k : Nat) (hk : 20 ≤ k) : wristbandref02_down.f k y 3 = some (y / 8) := by
  unfold wristbandref02_down.f
  rw [show (3 : Int) = ((3 : Nat) : Int) from rfl, show (0 : Int) = ((0 : Nat) : Int) from rfl, down_l0 3 k y 3 0 h rfl (by omega) (by omega)]
  congr 1
  simp only [hv]
  omega
theorem down10 (y : Int) (h : U32 y) (k : Nat) (hk : 20 ≤ k) : wristbandref02_down.f k y 10 = some (y / 1024) := by
  unfold wristbandref02_down.f
  rw [show (10 : Int) = ((10 : Nat) : Int) from rfl, show (0 : Int) = ((0 : Nat) : Int) from rfl, down_l0 10 k y 10 0 h rfl (by omega) (by omega)]
  congr 1
  simp only [hv]
  omega
theorem const_f (i : Nat) (h : i < 64) : wristbandref02_constant.f (i : Int) = some (shaK[i]?.getD 0) := by
  have e : wristbandref02_constant.f (i : Int) = if 0 ≤ (i : Int) then (if (i : Int) < (shaK.length : Int) then some (rd shaK (i : Int)) else none) else none := rfl
  rw [e, if_pos (by omega), if_pos (by show (i : Int) < ((64 : Nat) : Int); omega)]
  unfold rd
  simp [List.getD_eq_getElem?_getD]
theorem refBlock_l1 (s ws : List Int) (hs : 8 ≤ s.length) (hl : ws.length = 64) : ∀ (n k i : Nat) (a b c d e f g h : Int), i + n = 64 → U32 a → U32 b → U32 c → U32 d → U32 e → U32 f → U32 g → U32 h → n + 40 < k →
    wristbandref02_Block.l1 k s ws a b c d e f g h (i : Int) = some (sb.fin s (rnds ws n i a b c d e f g h))
  | 0, k, i, a, b, c, d, e, f, g, h, hi, _, _, _, _, _, _, _, _, hk => by
    obtain ⟨k, rfl⟩ := ex_succ (show 0 < k by omega)
    simp only [wristbandref02_Block.l1]
    rw [if_neg (by omega), if_pos (by omega), if_pos (by omega), if_pos (by omega), if_pos (by omega), if_pos (by omega), if_pos (by omega), if_pos (by omega), if_pos (by omega)]
    unfold rnds sb.fin rd
    simp only [List.getD_eq_getElem?_getD, List.getElem?_cons_zero, List.getElem?_cons_succ, Option.getD_some]
    have c8 : ∀ x y : Int, (x + y) % 4294967296 = (y + x) % 4294967296 := fun x y => by rw [Int.add_comm]
    rw [c8 a, c8 b, c8 c, c8 d, c8 e, c8 f, c8 g, c8 h]
    rfl
  | n + 1, k, i, a, b, c, d, e, f, g, h, hi, ha, hb, hc, hd, he, hf, hg, hh, hk => by
    obtain ⟨k, rfl⟩ := ex_succ (show 0 < k by omega)
    have hw : wrap64 ((i : Int) + 1) = ((i + 1 : Nat) : Int) := by rw [wrap64_id (by omega) (by omega)]; omega
    simp only [wristbandref02_Block.l1, hw]
    clear hw
    rw [if_pos (by omega), refRot_f e 6 he k (by omega), refRot_f e 11 he k (by omega), refRot_f e 25 he k (by omega), const_f i (by omega), refRot_f a 2 ha k (by omega), refRot_f a 13 ha k (by omega), refRot_f a 22 ha k (by omega)]
    simp only [Option.bind_some]
    rw [if_pos (by omega), if_pos (by omega), ← maj_eq a b c, ← ch_eq e f g he]
    rw [refBlock_l1 s ws hs hl n k (i + 1) _ _ _ _ _ _ _ _ (by omega) (u32_mod _) ha hb hc (u32_mod _) he hf hg (by omega)]
    have ex : sb.x ws i e f g h (xo (rr 6 e) (rr 11 e) (rr 25 e)) = h + xo (rr 6 e) (rr 11 e) (rr 25 e) + sb.ch e f g + shaK[i]?.getD 0 + rd ws (i : Int) := rfl
    conv => rhs; unfold rnds
    rw [ex]
    have d1 : Go.bits .xor .u32 (Go.bits .xor .u32 (itl ((-6) % 32 : Int).toNat e) (itl ((-11) % 32 : Int).toNat e)) (itl ((-25) % 32 : Int).toNat e) = xo (rr 6 e) (rr 11 e) (rr 25 e) := rfl
    have d2 : Go.bits .xor .u32 (Go.bits .xor .u32 (itl ((-2) % 32 : Int).toNat a) (itl ((-13) % 32 : Int).toNat a)) (itl ((-22) % 32 : Int).toNat a) = xo (rr 2 a) (rr 13 a) (rr 22 a) := rfl
    rw [d1, d2]
    generalize xo (rr 6 e) (rr 11 e) (rr 25 e) = t1
    generalize xo (rr 2 a) (rr 13 a) (rr 22 a) = t2
    generalize sb.ch e f g = t3
    generalize sb.mj a b c = t4
    generalize shaK[i]?.getD 0 = t5
    generalize rd ws (i : Int) = t6
    rw [show (((((h + t1) % 4294967296 + t3) % 4294967296 + t5) % 4294967296 + t6) % 4294967296 + (t2 + t4) % 4294967296) % 4294967296 = (h + t1 + t3 + t5 + t6 + (t2 + t4)) % 4294967296 by omega, show (d + ((((h + t1) % 4294967296 + t3) % 4294967296 + t5) % 4294967296 + t6) % 4294967296) % 4294967296 = (d + (h + t1 + t3 + t5 + t6)) % 4294967296 by omega]
theorem refBlock_l0 (s : List Int) (hs : Words s) (hs8 : s.length = 8) : ∀ (n k : Nat) (w : List Int), w.length + n = 64 → 16 ≤ w.length → Words w → n + 110 < k →
    wristbandref02_Block.l0 k s w (w.length : Int) = some (sb.fin s (rnds (grow n w) 64 0 (s[0]?.getD 0) (s[1]?.getD 0) (s[2]?.getD 0) (s[3]?.getD 0) (s[4]?.getD 0) (s[5]?.getD 0) (s[6]?.getD 0) (s[7]?.getD 0)))
  | 0, k, w, hl, h16, hw, hk => by
    obtain ⟨k, rfl⟩ := ex_succ (show 0 < k by omega)
    simp only [wristbandref02_Block.l0]
    rw [if_neg (by omega), if_pos (by omega), if_pos (by omega), if_pos (by omega), if_pos (by omega), if_pos (by omega), if_pos (by omega), if_pos (by omega), if_pos (by omega)]
    have r : ∀ i : Nat, rd s (i : Int) = s[i]?.getD 0 := fun i => by unfold rd; simp [List.getD_eq_getElem?_getD]
    have r0 : rd s 0 = s[0]?.getD 0 := r 0
    have r1 : rd s 1 = s[1]?.getD 0 := r 1
    have r2 : rd s 2 = s[2]?.getD 0 := r 2
    have r3 : rd s 3 = s[3]?.getD 0 := r 3
    have r4 : rd s 4 = s[4]?.getD 0 := r 4
    have r5 : rd s 5 = s[5]?.getD 0 := r 5
    have r6 : rd s 6 = s[6]?.getD 0 := r 6
    have r7 : rd s 7 = s[7]?.getD 0 := r 7
    rw [r0, r1, r2, r3, r4, r5, r6, r7, show (0 : Int) = ((0 : Nat) : Int) from rfl]
    exact refBlock_l1 s w (by omega) (by omega) 64 k 0 _ _ _ _ _ _ _ _ rfl (u32_at hs 0) (u32_at hs 1) (u32_at hs 2) (u32_at hs 3) (u32_at hs 4) (u32_at hs 5) (u32_at hs 6) (u32_at hs 7) (by omega)
  | n + 1, k, w, hl, h16, hw, hk => by
    obtain ⟨k, rfl⟩ := ex_succ (show 0 < k by omega)
    have e15 : wrap64 ((w.length : Int) - 15) = (w.length : Int) - 15 := wrap64_id (by omega) (by omega)
    have e2 : wrap64 ((w.length : Int) - 2) = (w.length : Int) - 2 := wrap64_id (by omega) (by omega)
    have e7 : wrap64 ((w.length : Int) - 7) = (w.length : Int) - 7 := wrap64_id (by omega) (by omega)
    have e16 : wrap64 ((w.length : Int) - 16) = (w.length : Int) - 16 := wrap64_id (by omega) (by omega)
    have e1 : wrap64 ((w.length : Int) + 1) = ((w ++ [nextw w]).length : Int) := by rw [wrap64_id (by omega) (by omega)]; simp
    simp only [wristbandref02_Block.l0, e15, e2, e7, e16]
    rw [if_pos (by omega), if_pos (by omega), if_pos (by omega), if_pos (by omega), if_pos (by omega), refRot_f _ _ (rd_word hw _) k (by omega), refRot_f _ _ (rd_word hw _) k (by omega), down3 _ (rd_word hw _) k (by omega), refRot_f _ _ (rd_word hw _) k (by omega), refRot_f _ _ (rd_word hw _) k (by omega), down10 _ (rd_word hw _) k (by omega)]
    simp only [Option.bind_some]
    rw [if_pos (by omega), if_pos (by omega), if_pos (by omega), if_pos (by omega), if_pos (by omega), e1]
    clear e15 e2 e7 e16 e1
    exact refBlock_l0 s hs hs8 n k (w ++ [nextw w]) (by simp; omega) (by simp; omega) (fun x hx => by
      rcases List.mem_append.1 hx with hx | hx
      · exact hw x hx
      · rw [List.mem_singleton.1 hx]; unfold nextw; exact u32_mod _) (by omega)
theorem refBlock_f (s b : List Int) (hs : Words s) (hs8 : s.length = 8) (hb : Bytes b) (hl : b.length = 64) (k : Nat) (hk : 200 ≤ k) : wristbandref02_Block.f k s b = some (compress s b) := by
  unfold wristbandref02_Block.f
  rw [refWords_f b hb (by omega) k (by omega)]
  simp only [Option.bind_some]
  have h16 : (wordsOf b).length = 16 := words_len 16 b (by omega)
  have h := refBlock_l0 s hs hs8 48 k (wordsOf b) (by omega) (by omega) (words_words _ b (Nat.le_refl _)) (by omega)
  rw [h16] at h
  exact h
theorem feed_enough : ∀ (n m : Nat) (s al : List Int), al.length < 64 * n → al.length < 64 * m → feed n s al = feed m s al
  | 0, _, _, _, h, _ => by omega
  | _, 0, _, _, _, h => by omega
  | n + 1, m + 1, s, al, h1, h2 => by
    unfold feed
    by_cases h : 64 ≤ al.length
    · rw [if_pos h, if_pos h]
      exact feed_enough n m _ _ (by rw [List.length_drop]; omega) (by rw [List.length_drop]; omega)
    · rw [if_neg h, if_neg h]
theorem feed_app : ∀ (n N : Nat) (s al t : List Int), al.length < 64 * n → (al ++ t).length < 64 * N → feed N s (al ++ t) = feed N (feed n s al).1 ((feed n s al).2 ++ t)
  | 0, _, _, _, _, h, _ => by omega
  | n + 1, N, s, al, t, h1, h2 => by
    by_cases h : 64 ≤ al.length
    · obtain ⟨N, rfl⟩ := ex_succ (show 0 < N by omega)
      have hd : (al.drop 64).length = al.length - 64 := List.length_drop
      have e : feed (n + 1) s al = feed n (compress s (al.take 64)) (al.drop 64) := by
        conv => lhs; unfold feed
        rw [if_pos h]
      rw [e]
      have e2 : feed (N + 1) s (al ++ t) = feed N (compress s (al.take 64)) (al.drop 64 ++ t) := by
        conv => lhs; unfold feed
        rw [if_pos (by rw [List.length_append]; omega), List.take_append_of_le_length h, List.drop_append_of_le_length h]
      have h3 : (al.drop 64 ++ t).length < 64 * N := by rw [List.length_append] at *; omega
      rw [e2, feed_app n N _ _ t (by omega) h3]
      have hle : ((feed n (compress s (al.take 64)) (al.drop 64)).2 ++ t).length ≤ (al.drop 64 ++ t).length := by
        rw [List.length_append, List.length_append]
        have := feed_le n (compress s (al.take 64)) (al.drop 64)
        omega
      exact feed_enough _ _ _ _ (by omega) (by omega)
    · have e : feed (n + 1) s al = (s, al) := by
        conv => lhs; unfold feed
        rw [if_neg h]
      rw [e]
 where
  feed_le : ∀ (n : Nat) (s al : List Int), (feed n s al).2.length ≤ al.length
    | 0, _, _ => Nat.le_refl _
    | n + 1, s, al => by
      unfold feed
      split
      · have := feed_le n (compress s (al.take 64)) (al.drop 64)
        rw [List.length_drop] at this
        omega
      · exact Nat.le_refl _
theorem refFrom_l0 (al : List Int) (hb : Bytes al) (hlm : al.length < 140737488355328) : ∀ (n k i : Nat) (s : List Int), Words s → s.length = 8 → i ≤ al.length → (al.drop i).length < 64 * n → n + 200 < k → wristbandref02_From.l0 k s al (i : Int) = some (feed n s (al.drop i)).1
  | 0, _, _, _, _, _, _, h, _ => by omega
  | n + 1, k, i, s, hs, hs8, hi, h, hk => by
    obtain ⟨k, rfl⟩ := ex_succ (show 0 < k by omega)
    rw [List.length_drop] at h
    have w1 : wrap64 ((i : Int) + 63) = (i : Int) + 63 := wrap64_id (by omega) (by omega)
    have w2 : wrap64 ((i : Int) + 64) = ((i + 64 : Nat) : Int) := by rw [wrap64_id (by omega) (by omega)]; omega
    simp only [wristbandref02_From.l0, w1, w2]
    clear w1 w2
    unfold feed
    rw [List.length_drop]
    by_cases h64 : 64 ≤ al.length - i
    · have hc : (al.take (i + 64)).drop i = (al.drop i).take 64 := by rw [List.drop_take, show i + 64 - i = 64 by omega]
      rw [if_pos (by omega), if_pos (by omega), if_pos (by omega), if_pos (by omega), if_pos h64, Int.toNat_natCast, Int.toNat_natCast, hc, refBlock_f s _ hs hs8 ((hb.drop i).take 64) (by rw [List.length_take, List.length_drop]; omega) k (by omega)]
      simp only [Option.bind_some]
      rw [refFrom_l0 al hb hlm n k (i + 64) _ (compress_words _ _) (compress_len _ _) (by omega) (by rw [List.length_drop]; omega) (by omega), List.drop_drop]
    · rw [if_neg (by omega), if_neg h64]
theorem refFrom_f (s al : List Int) (hs : Words s) (hs8 : s.length = 8) (hb : Bytes al) (hlm : al.length < 140737488355328) (n k : Nat) (hn : al.length < 64 * n) (hk : n + 200 < k) : wristbandref02_From.f k s al = some (feed n s al).1 := by
  unfold wristbandref02_From.f
  rw [show (0 : Int) = ((0 : Nat) : Int) from rfl, refFrom_l0 al hb hlm n k 0 s hs hs8 (by omega) (by simpa using hn) hk]
  simp
def fillOf (lr : List Int) (m : Int) : List Int := lr ++ 128 :: (List.replicate ((119 - lr.length % 64) % 64) 0 ++ p8 (8 * m % 18446744073709551616))
theorem refFill_l0 (m : Int) : ∀ (d k : Nat) (out : List Int), (out.length + d) % 64 = 56 → d < 64 → out.length + d + 20 < 140737488355328 → d + 20 < k → wristbandref02_Fill.l0 k m out = some (out ++ (List.replicate d 0 ++ p8 (8 * m % 18446744073709551616)))
  | 0, k, out, h, _, hl, hk => by
    obtain ⟨k, rfl⟩ := ex_succ (show 0 < k by omega)
    simp only [wristbandref02_Fill.l0]
    rw [if_pos (by omega), u64w, refPut_f _ (by unfold U64; omega) k (by omega)]
    simp only [Option.bind_some]
    rw [if_pos (by rw [p8_len]; omega)]
    rfl
  | d + 1, k, out, h, hd, hl, hk => by
    obtain ⟨k, rfl⟩ := ex_succ (show 0 < k by omega)
    have hlen : (out ++ [(0 : Int)]).length = out.length + 1 := by simp
    simp only [wristbandref02_Fill.l0]
    rw [if_neg (by omega), if_pos (by omega), refFill_l0 m d k (out ++ [0]) (by rw [hlen]; omega) (by omega) (by rw [hlen]; omega) (by omega), List.append_assoc, List.replicate_succ]
    rfl
theorem refFill_f (l : List Int) (m : Int) (hl : l.length < 140737488000000) (k : Nat) (hk : 100 ≤ k) : wristbandref02_Fill.f k l m = some (fillOf l m) := by
  have hlen : (l ++ [(128 : Int)]).length = l.length + 1 := by simp
  unfold wristbandref02_Fill.f
  simp only [Option.bind_some, List.length_nil, List.nil_append, Nat.zero_add]
  rw [if_pos (by omega), if_pos (by omega), refFill_l0 m ((119 - l.length % 64) % 64) k _ (by rw [hlen]; omega) (by omega) (by rw [hlen]; omega) (by omega), List.append_assoc]
  rfl
theorem bytes_rep (n : Nat) : Bytes (List.replicate n 0) := fun x hx => by rw [(List.mem_replicate.1 hx).2]; omega
theorem fillOf_bytes (l : List Int) (m : Int) (hb : Bytes l) : Bytes (fillOf l m) := by
  unfold fillOf
  refine bytes_app hb (fun x hx => ?_)
  rcases List.mem_cons.1 hx with rfl | hx
  · omega
  · exact bytes_app (bytes_rep _) (p8_bytes _) x hx
theorem fillOf_len (l : List Int) (m : Int) : (fillOf l m).length = l.length + 9 + (119 - l.length % 64) % 64 := by
  unfold fillOf
  rw [List.length_append, List.length_cons, List.length_append, List.length_replicate, p8_len]
  omega
theorem last_form (lr : List Int) (h : lr.length < 64) : en.last lr = lr ++ 128 :: List.replicate (63 - lr.length) 0 := by
  unfold en.last
  rw [show 64 - lr.length = (63 - lr.length) + 1 by omega, List.replicate_succ, List.set_append, if_neg (by omega), Nat.sub_self]
  rfl
theorem feed_one (n : Nat) (s al : List Int) (h : al.length = 64) : (feed (n + 1 + 1) s al).1 = compress s al := by
  unfold feed
  rw [if_pos (by omega), List.take_of_length_le (by omega), List.drop_of_length_le (by omega)]
  unfold feed
  rw [if_neg (by simp)]
theorem feed_two (n : Nat) (s a b : List Int) (ha : a.length = 64) (hb : b.length = 64) : (feed (n + 1 + 1 + 1) s (a ++ b)).1 = compress (compress s a) b := by
  conv => lhs; unfold feed
  rw [if_pos (by rw [List.length_append]; omega), List.take_append_of_le_length (by omega), List.take_of_length_le (by omega), List.drop_append_of_le_length (by omega), List.drop_of_length_le (by omega), List.nil_append]
  exact feed_one n _ b hb
theorem finish_feed (s lr : List Int) (m : Int) (hl : lr.length < 64) (n : Nat) : (feed (n + 1 + 1 + 1) s (fillOf lr m)).1 = finish s lr m := by
  unfold finish
  rw [Int.mul_comm m 8]
  by_cases h : lr.length < 56
  · have e : fillOf lr m = (en.last lr).take 56 ++ p8 (8 * m % 18446744073709551616) := by
      unfold fillOf
      rw [last_form lr hl, List.take_append, List.take_of_length_le (by omega), show 56 - lr.length = (55 - lr.length) + 1 by omega, List.take_succ_cons, List.take_replicate, Nat.min_eq_left (by omega), show (119 - lr.length % 64) % 64 = 55 - lr.length by omega]
      simp
    rw [if_pos h, e]
    exact feed_one (n + 1) s _ (by rw [List.length_append, List.length_take, last_len lr hl, p8_len]; rfl)
  · have e : fillOf lr m = en.last lr ++ (z64.take 56 ++ p8 (8 * m % 18446744073709551616)) := by
      unfold fillOf z64
      rw [last_form lr hl, show (119 - lr.length % 64) % 64 = (63 - lr.length) + 56 by omega, List.take_replicate, show min 56 64 = 56 from rfl, ← List.replicate_append_replicate]
      simp
    rw [if_neg h, e]
    exact feed_two n s _ _ (last_len lr hl) (by unfold z64; rw [List.length_append, List.length_take, List.length_replicate, p8_len]; rfl)
theorem fill_app (s l : List Int) (m : Int) (hs : Words s) (hb : Bytes l) (n : Nat) (hn : l.length + 200 < 64 * n) : (feed n s (fillOf l m)).1 = finish (feed (l.length + 1) s l).1 (feed (l.length + 1) s l).2 m := by
  have hf := feed_left (l.length + 1) s l (by omega) hs hb
  obtain ⟨n, rfl⟩ : ∃ j, n = j + 1 + 1 + 1 := ⟨n - 3, by omega⟩
  have e : fillOf l m = l ++ (128 :: (List.replicate ((119 - l.length % 64) % 64) 0 ++ p8 (8 * m % 18446744073709551616))) := rfl
  have e2 : fillOf (feed (l.length + 1) s l).2 m = (feed (l.length + 1) s l).2 ++ (128 :: (List.replicate ((119 - l.length % 64) % 64) 0 ++ p8 (8 * m % 18446744073709551616))) := by
    unfold fillOf
    rw [hf.2.2.2, Nat.mod_mod]
  rw [e, feed_app (l.length + 1) _ s l _ (by omega) (by rw [← e, fillOf_len]; omega), ← e2]
  exact finish_feed _ _ m hf.1 n
theorem refSum_f (l : List Int) (hb : Bytes l) (hl : l.length < 100000000) (k : Nat) (hk : l.length + 300 ≤ k) : wristbandref02_Sum.f k l = some (shaSum l) := by
  unfold wristbandref02_Sum.f
  have e1 : wristbandref02_First.f = some shaF := rfl
  rw [e1]
  simp only [Option.bind_some]
  rw [u64w, refFill_f l _ (by omega) k (by omega)]
  simp only [Option.bind_some]
  have hfl := fillOf_len l ((l.length : Int) % 18446744073709551616)
  rw [refFrom_f shaF _ shaF_words rfl (fillOf_bytes l _ hb) (by omega) (l.length / 64 + 5) k (by omega) (by omega)]
  simp only [Option.bind_some]
  rw [fill_app shaF l _ shaF_words hb _ (by omega)]
  have hw : ∀ s r m, Words (finish s r m) := by
    intro s r m
    unfold finish
    split <;> exact compress_words _ _
  have h8 : ∀ s r m, (finish s r m).length = 8 := by
    intro s r m
    unfold finish
    split <;> rfl
  rw [refBytes_f _ (hw _ _ _) (by rw [h8]; omega) k (by rw [h8]; omega)]
  rfl
/-! the document's tags -/
theorem refBlock3_l0 : ∀ (d k : Nat) (out : List Int), out.length + d = 64 → d < k → wristbandref03_Block.l0 k out = some (out ++ List.replicate d 0)
  | 0, k, out, h, hk => by
    obtain ⟨k, rfl⟩ := ex_succ hk
    simp only [wristbandref03_Block.l0]
    rw [if_neg (by omega)]; simp
  | d + 1, k, out, h, hk => by
    obtain ⟨k, rfl⟩ := ex_succ hk
    simp only [wristbandref03_Block.l0]
    rw [if_pos (by omega), if_pos (by omega), refBlock3_l0 d k (out ++ [0]) (by simp; omega) (by omega), List.append_assoc, List.replicate_succ]
    rfl
theorem refBlock3_s (l : List Int) (h : l.length ≤ 64) (k : Nat) (hk : 70 ≤ k) : wristbandref03_Block.f (k + 1) l = some (hmac_Block.pad l) := by
  simp only [wristbandref03_Block.f]
  rw [if_neg (by omega)]
  simp only [Option.bind_some, List.length_nil, List.nil_append, Nat.zero_add]
  rw [if_pos (by omega), refBlock3_l0 (64 - l.length) k l (by omega) (by omega), pad_form l h]
theorem refBlock3_f (key : List Int) (hb : Bytes key) (hl : key.length < 1000000) (k : Nat) (hk : key.length + 400 ≤ k) : wristbandref03_Block.f k key = some (hblock key) := by
  obtain ⟨k, rfl⟩ : ∃ j, k = j + 1 + 1 := ⟨k - 2, by omega⟩
  unfold hblock
  by_cases h : 64 < key.length
  · rw [if_pos h]
    rw [wristbandref03_Block.f, if_pos (by omega), refSum_f key hb (by omega) (k + 1) (by omega), Option.bind_some, refBlock3_s (shaSum key) (by rw [sum_len]; omega) k (by omega)]
    rfl
  · rw [if_neg h]
    exact refBlock3_s key (by omega) (k + 1) (by omega)
theorem refMac_l0 (msg blk : List Int) (hm : Bytes msg) (hb : Bytes blk) (hl : blk.length = 64) (hlm : msg.length < 1000000) : ∀ (d k i : Nat) (a b : List Int), i + d = 64 → a = turnBy 92 (blk.take i) → b = turnBy 54 (blk.take i) → d + msg.length + 500 ≤ k →
    wristbandref03_Mac.l0 k msg blk a b (i : Int) = some (macOf blk msg)
  | 0, k, i, a, b, hi, ha, hbb, hk => by
    obtain ⟨k, rfl⟩ := ex_succ (show 0 < k by omega)
    rw [List.take_of_length_le (by omega)] at ha hbb
    subst ha hbb
    have l1 : (turnBy 54 blk).length = 64 := by unfold turnBy; rw [List.length_map, hl]
    have l2 : (turnBy 92 blk).length = 64 := by unfold turnBy; rw [List.length_map, hl]
    have b1 := turn_bytes 54 blk (by omega) hb
    have b2 := turn_bytes 92 blk (by omega) hb
    simp only [wristbandref03_Mac.l0]
    rw [if_neg (by omega), if_pos (by omega), refSum_f _ (bytes_app b1 hm) (by rw [List.length_append]; omega) k (by rw [List.length_append]; omega)]
    simp only [Option.bind_some]
    rw [if_pos (by rw [sum_len]; omega), refSum_f _ (bytes_app b2 (sum_bytes _)) (by rw [List.length_append, sum_len]; omega) k (by rw [List.length_append, sum_len]; omega)]
    rfl
  | d + 1, k, i, a, b, hi, ha, hbb, hk => by
    obtain ⟨k, rfl⟩ := ex_succ (show 0 < k by omega)
    have hw : wrap64 ((i : Int) + 1) = ((i + 1 : Nat) : Int) := by rw [wrap64_id (by omega) (by omega)]; omega
    have hal : a.length = i := by subst ha; unfold turnBy; rw [List.length_map, List.length_take]; omega
    have hbl : b.length = i := by subst hbb; unfold turnBy; rw [List.length_map, List.length_take]; omega
    have hlt : i < blk.length := by omega
    have step : ∀ x : Int, turnBy x (blk.take (i + 1)) = turnBy x (blk.take i) ++ [Go.bits .xor .u8 (rd blk (i : Int)) x] := by
      intro x
      unfold turnBy
      rw [List.take_succ_eq_append_getElem hlt, List.map_append, rd_at i hlt]
      rfl
    simp only [wristbandref03_Mac.l0, hw]
    clear hw
    rw [if_pos (by omega), if_pos (by omega), if_pos (by omega), if_pos (by omega), if_pos (by omega)]
    exact refMac_l0 msg blk hm hb hl hlm d k (i + 1) _ _ (by omega) (by rw [step, ha]) (by rw [step, hbb]) (by omega)
theorem refMac_f (key msg : List Int) (hb : Bytes key) (hm : Bytes msg) (hl : key.length < 1000000) (hlm : msg.length < 1000000) (k : Nat) (hk : key.length + msg.length + 1000 ≤ k) : wristbandref03_Mac.f k key msg = some (macOf (hblock key) msg) := by
  unfold wristbandref03_Mac.f
  rw [refBlock3_f key hb hl k (by omega)]
  simp only [Option.bind_some]
  rw [show (0 : Int) = ((0 : Nat) : Int) from rfl]
  exact refMac_l0 msg (hblock key) hm (hblock_bytes key hb) (hblock_len key) hlm 64 k 0 [] [] rfl rfl rfl (by omega)
theorem awake_true : wristbandlaw03_awake.f 120 = some true := by decide +kernel
theorem awake_at (k : Nat) (hk : 120 ≤ k) : wristbandlaw03_awake.f k = some true := at_rounds wristbandlaw03_awake.mono hk awake_true
theorem hmacRight_at (k : Nat) (key msg : List Int) (hb : Bytes key) (hm : Bytes msg) (hk : key.length + msg.length + 1000 ≤ k) : wristbandlaw03_HmacRight.f (k + 1) key msg = some true := by
  unfold wristbandlaw03_HmacRight.f
  rw [awake_at _ (by omega)]
  simp only [Option.bind_some, if_true]
  by_cases h1 : (key.length : Int) > 2000
  · rw [if_pos h1]; simp [wristbandlaw03_HmacRight.j0]
  rw [if_neg h1]
  by_cases h2 : (msg.length : Int) > 2000
  · rw [decide_eq_true h2]; simp [wristbandlaw03_HmacRight.j0]
  rw [decide_eq_false h2]
  simp only [wristbandlaw03_HmacRight.j0]
  rw [if_neg (by simp), hblock_f key hb (by omega) k (by omega), refBlock3_f key hb (by omega) k (by omega)]
  simp only [Option.bind_some]
  rw [if_pos trivial, mac_f key msg hb hm (by omega) (by omega) k (by omega), refMac_f key msg hb hm (by omega) (by omega) k (by omega)]
  simp
theorem HmacRight : wristbandlaw03_HmacRight.Pure := by
  intro key msg _ _ hwk _ _ hwm
  exact ⟨key.length + msg.length + 1000 + 1, hmacRight_at _ key msg (bytes_of hwk) (bytes_of hwm) (Nat.le_refl _)⟩

end Go.Proofs.YtnpkhkhlofkbhaaDoor.Pure
