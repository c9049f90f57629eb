/- By a Symbolic engine a tag that fits one text and key fits no other; what was never made fits nothing; for every input. -/
import Derived.Test.YtnpkhkhlofkbhaaPMacSymbolicx6
import Derived.OpenShut
set_option linter.unusedVariables false
set_option linter.unusedSimpArgs false
namespace Go.Proofs.Ytnpkhkhlofkbhaa.Pure
open Go.RowKit Go.Proofs.Ytnpkhkhlofkbhaa.PMacSymbolic Go.Proofs.YtnpkhkhlofkbhaaW.PrintWords Go.Proofs.YtnpkhkhlofkbhaaW.PrintLast Go.Proofs.YtnpkhkhlofkbhaaW.PrintMore

set_option linter.unusedSectionVars false
variable [Inhabited Tb]

theorem wrap64_id {n : Int} (h0 : -9223372036854775808 ≤ n) (h1 : n ≤ 9223372036854775807) : wrap64 n = n := by unfold wrap64; omega
theorem ex_succ {k n : Nat} (h : n < k) : ∃ m, k = m + 1 := ⟨k - 1, by omega⟩
def Bytes (l : List Int) : Prop := ∀ x ∈ l, 0 ≤ x ∧ x ≤ 255
theorem bytes_of {l : List Int} (h : ∀ x ∈ l, (Lit.int .u8 x).wf = true) : Bytes l := fun x hx => bounds_u8 (h x hx)
theorem rd_at {l : List Int} (i : Nat) (h : i < l.length) : rd l (i : Int) = l[i] := by
  unfold rd
  simp [List.getD_eq_getElem?_getD, List.getElem?_eq_getElem h]
theorem rd_bytes {l : List Int} (h : Bytes l) (i : Int) : 0 ≤ rd l i ∧ rd l i ≤ 255 := by
  unfold rd
  rw [List.getD_eq_getElem?_getD]
  rcases Nat.lt_or_ge i.toNat l.length with hl | hl
  · rw [List.getElem?_eq_getElem hl]; exact h _ (List.getElem_mem hl)
  · rw [List.getElem?_eq_none hl]; simp
theorem Bytes.take {l : List Int} (h : Bytes l) (n : Nat) : Bytes (l.take n) := fun x hx => h x (List.mem_of_mem_take hx)
theorem Bytes.drop {l : List Int} (h : Bytes l) (n : Nat) : Bytes (l.drop n) := fun x hx => h x (List.mem_of_mem_drop hx)
theorem Bytes.cons {a : Int} {l : List Int} (h : Bytes (a :: l)) : (0 ≤ a ∧ a ≤ 255) ∧ Bytes l := ⟨h a (by simp), fun x hx => h x (by simp [hx])⟩
theorem u64w (n : Int) : IntKind.u64.wrap n = n % 18446744073709551616 := by simp [IntKind.wrap, IntKind.bits, IntKind.signed]
theorem wraps_u64 (n : Int) (h₀ : 0 ≤ n) (h₁ : n < 2 ^ 64) : IntKind.u64.wrap n = n := by rw [u64w]; omega
theorem wraps_u32 (n : Int) (h₀ : 0 ≤ n) (h₁ : n < 2 ^ 32) : IntKind.u32.wrap n = n := by rw [IntKind.wrap_u32]; omega
theorem tmod_nn {a b : Int} (h : 0 ≤ a) : Int.tmod a b = a % b := Int.tmod_eq_emod_of_nonneg h
theorem tdiv_nn {a b : Int} (h : 0 ≤ a) : Int.tdiv a b = a / b := Int.tdiv_eq_ediv_of_nonneg h
def vs (v x : Int) : Int := (v * 256) % 18446744073709551616 + x
def val (l : List Int) : Int := l.foldl vs 0
theorem or_step (v x : Int) (h0 : 0 ≤ x) (h1 : x ≤ 255) : Go.bits .or .u64 (IntKind.u64.wrap (v * 256)) (IntKind.u64.wrap x) = vs v x := by
  rw [u64w, u64w, show x % 18446744073709551616 = x by omega]
  exact bits_join .u64 64 (by decide) wraps_u64 8 _ x (by omega) (by omega) (by omega) h0 (by omega) (by omega)
theorem vs_range (v x : Int) (h0 : 0 ≤ x) (h1 : x ≤ 255) : 0 ≤ vs v x ∧ vs v x < 18446744073709551616 := by unfold vs; omega
theorem foldl_range : ∀ (l : List Int) (v : Int), Bytes l → 0 ≤ v → v < 18446744073709551616 → 0 ≤ l.foldl vs v ∧ l.foldl vs v < 18446744073709551616
  | [], v, _, h0, h1 => ⟨h0, h1⟩
  | a :: l, v, hb, _, _ => by
    have h := vs_range v a hb.cons.1.1 hb.cons.1.2
    exact foldl_range l _ hb.cons.2 h.1 h.2
theorem val_range {l : List Int} (hb : Bytes l) : 0 ≤ val l ∧ val l < 18446744073709551616 := foldl_range l 0 hb (by omega) (by omega)
theorem value_l0 (l : List Int) (hb : Bytes l) (hl : l.length ≤ 9223372036854775806) : ∀ (d k : Nat) (v : Int) (i : Nat), i + d = l.length → d < k → word_value.l0 k v l (l.length : Int) (i : Int) = some ((l.drop i).foldl vs v) := by
  intro d
  induction d with
  | zero =>
    intro k v i hi hk
    obtain ⟨k, rfl⟩ := ex_succ hk
    simp only [word_value.l0]
    rw [if_neg (by omega), List.drop_eq_nil_of_le (by omega)]; rfl
  | succ d ih =>
    intro k v i hi hk
    obtain ⟨k, rfl⟩ := ex_succ hk
    have hlt : i < l.length := by omega
    simp only [word_value.l0]
    rw [if_pos (by omega), if_pos (by omega), if_pos (by omega), or_step _ _ (rd_bytes hb _).1 (rd_bytes hb _).2, wrap64_id (by omega) (by omega), show ((i : Int) + 1) = ((i + 1 : Nat) : Int) by omega, ih k _ (i + 1) (by omega) (by omega), rd_at i hlt, List.drop_eq_getElem_cons hlt]
    rfl
theorem value_f (l : List Int) (hb : Bytes l) (hl : l.length ≤ 9223372036854775806) (k : Nat) (hk : l.length < k) : word_value.f k l = some (val l) := by
  unfold word_value.f
  rw [show (0 : Int) = ((0 : Nat) : Int) from rfl, value_l0 l hb hl l.length k _ 0 (by omega) hk]; rfl
/-! strings of bytes -/
theorem toList_loop (b : ByteArray) : ∀ (d i : Nat) (r : List UInt8), i + d = b.size → ByteArray.toList.loop b i r = r.reverse ++ b.data.toList.drop i := by
  intro d
  induction d with
  | zero =>
    intro i r h
    rw [ByteArray.toList.loop, if_neg (by omega), List.drop_eq_nil_of_le (by rw [Array.length_toList]; show b.size ≤ i; omega), List.append_nil]
  | succ d ih =>
    intro i r h
    have hlt : i < b.size := by omega
    have hl : i < b.data.toList.length := by rw [Array.length_toList]; exact hlt
    have hg : b.get! i = b.data.toList[i] := by
      show b.data[i]! = _
      rw [getElem!_pos b.data i hlt, Array.getElem_toList]
    rw [ByteArray.toList.loop, if_pos hlt, ih (i + 1) _ (by omega), List.drop_eq_getElem_cons hl, hg]
    simp
theorem toList_data (b : ByteArray) : b.toList = b.data.toList := by
  unfold ByteArray.toList
  rw [toList_loop b b.size 0 [] (by omega)]
  simp
theorem str_toList (xs : List Int) : (strOfNums xs).toList = xs.map fun n => UInt8.ofNat n.toNat := by
  rw [toList_data]; simp [strOfNums]
theorem ofNat_inj (a b : Int) (ha : 0 ≤ a ∧ a ≤ 255) (hb : 0 ≤ b ∧ b ≤ 255) (h : UInt8.ofNat a.toNat = UInt8.ofNat b.toNat) : a = b := by
  have h2 := congrArg UInt8.toNat h
  simp only [UInt8.toNat_ofNat'] at h2
  omega
theorem map_inj : ∀ (xs ys : List Int), Bytes xs → Bytes ys → (xs.map fun n => UInt8.ofNat n.toNat) = (ys.map fun n => UInt8.ofNat n.toNat) → xs = ys
  | [], [], _, _, _ => rfl
  | [], _ :: _, _, _, h => by simp at h
  | _ :: _, [], _, _, h => by simp at h
  | x :: xs, y :: ys, hx, hy, h => by
    simp only [List.map_cons, List.cons.injEq] at h
    rw [ofNat_inj x y hx.cons.1 hy.cons.1 h.1, map_inj xs ys hx.cons.2 hy.cons.2 h.2]
theorem str_inj (xs ys : List Int) (hx : Bytes xs) (hy : Bytes ys) : (strOfNums xs).toList = (strOfNums ys).toList ↔ xs = ys := by
  rw [str_toList, str_toList]
  exact ⟨map_inj xs ys hx hy, fun h => by rw [h]⟩
theorem str_beq (xs ys : List Int) (hx : Bytes xs) (hy : Bytes ys) : ((strOfNums xs).toList == (strOfNums ys).toList) = decide (xs = ys) := by
  by_cases h : xs = ys
  · subst h; simp
  · rw [decide_eq_false h, beq_eq_false_iff_ne]
    exact fun h2 => h ((str_inj xs ys hx hy).1 h2)
theorem str_size (xs : List Int) : (strOfNums xs).size = xs.length := by
  show (strOfNums xs).data.size = _
  simp [strOfNums]
theorem str_append (xs ys : List Int) : strOfNums (xs ++ ys) = strOfNums xs ++ strOfNums ys := by
  apply ByteArray.ext
  simp [strOfNums]
theorem str_bt (xs : List Int) (hx : Bytes xs) (i : Nat) (h : i < xs.length) : bt (strOfNums xs) (i : Int) = xs[i] := by
  have hs : i < (strOfNums xs).size := by rw [str_size]; exact h
  have hr := hx xs[i] (List.getElem_mem h)
  unfold bt
  simp only [Int.toNat_natCast]
  rw [dif_pos hs, ByteArray.getElem_eq_getElem_data]
  simp only [strOfNums, List.getElem_toArray, List.getElem_map, UInt8.toNat_ofNat']
  omega
theorem str_extract (xs : List Int) (i : Nat) : (strOfNums xs).extract i (strOfNums xs).size = strOfNums (xs.drop i) := by
  apply ByteArray.ext
  rw [ByteArray.data_extract]
  show ((strOfNums xs).data.extract i (strOfNums xs).data.size) = _
  simp [strOfNums, List.map_drop]
  exact List.take_of_length_le (by simp)
def word4b (x : Int) : List Int := [(x / 16777216) % 256, (x / 65536) % 256, (x / 256) % 256, x % 256]
def bytesOf : List Int → List Int
  | [] => []
  | a :: t => word4b a ++ bytesOf t
theorem word4b_bytes (x : Int) : Bytes (word4b x) := by
  intro y hy
  simp only [word4b, List.mem_cons, List.not_mem_nil, or_false] at hy
  omega
theorem bytesOf_bytes : ∀ l : List Int, Bytes (bytesOf l)
  | [] => fun _ h => by simp [bytesOf] at h
  | a :: t => fun x h => by
    simp only [bytesOf, List.mem_append] at h
    rcases h with h | h
    · exact word4b_bytes a x h
    · exact bytesOf_bytes t x h
def Words (l : List Int) : Prop := ∀ x ∈ l, 0 ≤ x ∧ x < 4294967296
theorem rd_words {l : List Int} (h : Words l) (i : Nat) (hi : i < l.length) : 0 ≤ rd l (i : Int) ∧ rd l (i : Int) < 4294967296 := by
  rw [rd_at i hi]; exact h _ (List.getElem_mem hi)
theorem drop_rd (l : List Int) (i : Nat) (h : i < l.length) : l.drop i = rd l (i : Int) :: l.drop (i + 1) := by
  rw [rd_at i h, List.drop_eq_getElem_cons h]
theorem bytes_l0 (l : List Int) (hl : l.length ≤ 35184372087808) : ∀ (d k : Nat) (out : List Int) (i : Nat), i + d = l.length → d < k → out.length + 4 * d < 140737488355328 → word_Bytes.l0 k out l (l.length : Int) (i : Int) = some (out ++ bytesOf (l.drop i)) := by
  intro d
  induction d with
  | zero =>
    intro k out i hi hk ho
    obtain ⟨k, rfl⟩ := ex_succ hk
    simp only [word_Bytes.l0]
    rw [if_neg (by omega), List.drop_eq_nil_of_le (by omega)]; simp [bytesOf]
  | succ d ih =>
    intro k out i hi hk ho
    obtain ⟨k, rfl⟩ := ex_succ hk
    have hw1 : wrap64 ((i : Int) + 1) = ((i + 1 : Nat) : Int) := by rw [wrap64_id (by omega) (by omega)]; omega
    simp only [word_Bytes.l0, hw1, Option.bind_some]
    clear hw1
    rw [if_pos (by omega), if_pos (by omega), if_pos (by omega), if_pos (by simp only [List.length_cons, List.length_nil]; omega), ih k _ (i + 1) (by omega) (by omega) (by simp only [List.length_append, List.length_cons, List.length_nil]; omega), drop_rd l i (by omega)]
    simp [bytesOf, word4b]
theorem bytes_f (l : List Int) (hl : l.length ≤ 35184372087808) (k : Nat) (hk : l.length < k) : word_Bytes.f k l = some (bytesOf l) := by
  unfold word_Bytes.f
  rw [show (0 : Int) = ((0 : Nat) : Int) from rfl, bytes_l0 l hl l.length k [] 0 (by omega) hk (by simp only [List.length_nil]; omega)]; simp
def p8 (x : Int) : List Int := [x / 72057594037927936 % 256, x / 281474976710656 % 256, x / 1099511627776 % 256, x / 4294967296 % 256, x / 16777216 % 256, x / 65536 % 256, x / 256 % 256, x % 256]
def U64 (x : Int) : Prop := 0 ≤ x ∧ x < 18446744073709551616
theorem p8_bytes (x : Int) : Bytes (p8 x) := by
  intro y hy
  simp only [p8, List.mem_cons, List.not_mem_nil, or_false] at hy
  omega
theorem put_f (x : Int) (h : U64 x) (k : Nat) (hk : 2 < k) : word_Put.f k x = some (p8 x) := by
  unfold U64 at h
  unfold word_Put.f
  rw [bytes_f _ (by simp) k (by simpa using hk)]
  simp only [Option.bind_some, bytesOf, word4b, List.cons_append, List.nil_append, List.append_nil, p8]
  rw [show x / 4294967296 % 4294967296 / 16777216 % 256 = x / 72057594037927936 % 256 by omega, show x / 4294967296 % 4294967296 / 65536 % 256 = x / 281474976710656 % 256 by omega, show x / 4294967296 % 4294967296 / 256 % 256 = x / 1099511627776 % 256 by omega, show x / 4294967296 % 4294967296 % 256 = x / 4294967296 % 256 by omega, show x % 4294967296 / 16777216 % 256 = x / 16777216 % 256 by omega, show x % 4294967296 / 65536 % 256 = x / 65536 % 256 by omega, show x % 4294967296 / 256 % 256 = x / 256 % 256 by omega, show x % 4294967296 % 256 = x % 256 by omega]
theorem clone_f (l : List Int) (h : l.length < 140737488355328) : slices_Clone_byte_byte.f l = some l := by
  unfold slices_Clone_byte_byte.f
  rw [if_pos h]
theorem p8_len (x : Int) : (p8 x).length = 8 := rfl
theorem vsL (v x : Int) (h0 : 0 ≤ v) (h1 : v < 72057594037927936) (hx : 0 ≤ x ∧ x ≤ 255) : vs v x = v * 256 + x := by unfold vs; omega
theorem val8 (a b c d e f g h : Int) (ha : 0 ≤ a ∧ a ≤ 255) (hb : 0 ≤ b ∧ b ≤ 255) (hc : 0 ≤ c ∧ c ≤ 255) (hd : 0 ≤ d ∧ d ≤ 255) (he : 0 ≤ e ∧ e ≤ 255) (hf : 0 ≤ f ∧ f ≤ 255) (hg : 0 ≤ g ∧ g ≤ 255) (hh : 0 ≤ h ∧ h ≤ 255) : val [a, b, c, d, e, f, g, h] = ((((((((0 * 256 + a) * 256 + b) * 256 + c) * 256 + d) * 256 + e) * 256 + f) * 256 + g) * 256 + h) := by
  simp only [val, List.foldl]
  rw [vsL (0) a (by omega) (by omega) ha, vsL ((0 * 256 + a)) b (by omega) (by omega) hb, vsL (((0 * 256 + a) * 256 + b)) c (by omega) (by omega) hc, vsL ((((0 * 256 + a) * 256 + b) * 256 + c)) d (by omega) (by omega) hd, vsL (((((0 * 256 + a) * 256 + b) * 256 + c) * 256 + d)) e (by omega) (by omega) he, vsL ((((((0 * 256 + a) * 256 + b) * 256 + c) * 256 + d) * 256 + e)) f (by omega) (by omega) hf, vsL (((((((0 * 256 + a) * 256 + b) * 256 + c) * 256 + d) * 256 + e) * 256 + f)) g (by omega) (by omega) hg, vsL ((((((((0 * 256 + a) * 256 + b) * 256 + c) * 256 + d) * 256 + e) * 256 + f) * 256 + g)) h (by omega) (by omega) hh]
theorem val_p8 (x : Int) (h : U64 x) : val (p8 x) = x := by
  have hb := p8_bytes x
  unfold p8 at *
  have m : ∀ y : Int, 0 ≤ y % 256 ∧ y % 256 ≤ 255 := fun y => by omega
  rw [val8 _ _ _ _ _ _ _ _ (m _) (m _) (m _) (m _) (m _) (m _) (m _) (m _)]
  unfold U64 at h
  rw [show x / 65536 = x / 256 / 256 by omega, show x / 16777216 = x / 256 / 256 / 256 by omega, show x / 4294967296 = x / 256 / 256 / 256 / 256 by omega, show x / 1099511627776 = x / 256 / 256 / 256 / 256 / 256 by omega, show x / 281474976710656 = x / 256 / 256 / 256 / 256 / 256 / 256 by omega, show x / 72057594037927936 = x / 256 / 256 / 256 / 256 / 256 / 256 / 256 by omega]
  have s : ∀ y : Int, y = 256 * (y / 256) + y % 256 := fun y => by omega
  have t : x / 256 / 256 / 256 / 256 / 256 / 256 / 256 < 256 ∧ 0 ≤ x / 256 / 256 / 256 / 256 / 256 / 256 / 256 := by omega
  have s0 := s x
  have s1 := s (x / 256)
  have s2 := s (x / 256 / 256)
  have s3 := s (x / 256 / 256 / 256)
  have s4 := s (x / 256 / 256 / 256 / 256)
  have s5 := s (x / 256 / 256 / 256 / 256 / 256)
  have s6 := s (x / 256 / 256 / 256 / 256 / 256 / 256)
  have s7 : x / 256 / 256 / 256 / 256 / 256 / 256 / 256 % 256 = x / 256 / 256 / 256 / 256 / 256 / 256 / 256 := by omega
  rw [s7]
  clear s7 m s hb
  generalize x / 256 / 256 / 256 / 256 / 256 / 256 / 256 = y7 at *
  generalize x / 256 / 256 / 256 / 256 / 256 / 256 % 256 = r6 at *
  generalize x / 256 / 256 / 256 / 256 / 256 / 256 = y6 at *
  generalize x / 256 / 256 / 256 / 256 / 256 % 256 = r5 at *
  generalize x / 256 / 256 / 256 / 256 / 256 = y5 at *
  generalize x / 256 / 256 / 256 / 256 % 256 = r4 at *
  generalize x / 256 / 256 / 256 / 256 = y4 at *
  generalize x / 256 / 256 / 256 % 256 = r3 at *
  generalize x / 256 / 256 / 256 = y3 at *
  generalize x / 256 / 256 % 256 = r2 at *
  generalize x / 256 / 256 = y2 at *
  generalize x / 256 % 256 = r1 at *
  generalize x / 256 = y1 at *
  generalize x % 256 = r0 at *
  omega
theorem p8_val : ∀ l : List Int, Bytes l → l.length = 8 → p8 (val l) = l
  | [a, b, c, d, e, f, g, h], hb, _ => by
    have ha := hb a (by simp)
    have hbb := hb b (by simp)
    have hc := hb c (by simp)
    have hd := hb d (by simp)
    have he := hb e (by simp)
    have hf := hb f (by simp)
    have hg := hb g (by simp)
    have hh := hb h (by simp)
    rw [val8 _ _ _ _ _ _ _ _ ha hbb hc hd he hf hg hh]
    clear hb
    unfold p8
    congr 1
    · omega
    congr 1
    · omega
    congr 1
    · omega
    congr 1
    · omega
    congr 1
    · omega
    congr 1
    · omega
    congr 1
    · omega
    congr 1
    omega
  | [], _, h => by simp at h
  | [_], _, h => by simp at h
  | [_, _], _, h => by simp at h
  | [_, _, _], _, h => by simp at h
  | [_, _, _, _], _, h => by simp at h
  | [_, _, _, _, _], _, h => by simp at h
  | [_, _, _, _, _, _], _, h => by simp at h
  | [_, _, _, _, _, _, _], _, h => by simp at h
  | _ :: _ :: _ :: _ :: _ :: _ :: _ :: _ :: _ :: _, _, h => by simp at h
def wordsOf : List Int → List Int
  | a :: b :: c :: d :: t => (val [a, b, c, d] % 4294967296) :: wordsOf t
  | _ => []
theorem words_l0 : ∀ (n : Nat) (l : List Int), l.length ≤ n → Bytes l → ∀ (k : Nat) (out : List Int), l.length + 6 ≤ k → out.length + l.length / 4 < 35184372088832 → word_Words.l0 k l out = some (out ++ wordsOf l) := by
  intro n
  induction n with
  | zero =>
    intro l hn hb k out hk ho
    obtain ⟨k, rfl⟩ := ex_succ (show 0 < k by omega)
    obtain rfl : l = [] := List.eq_nil_of_length_eq_zero (by omega)
    simp [word_Words.l0, wordsOf]
  | succ n ih =>
    intro l hn hb k out hk ho
    obtain ⟨k, rfl⟩ := ex_succ (show 0 < k by omega)
    by_cases h4 : 4 ≤ l.length
    · match l, h4, hb, hn, hk, ho with
      | a :: b :: c :: d :: t, h4, hb, hn, hk, ho =>
        simp only [List.length_cons] at hn hk ho
        have hbt : Bytes t := hb.cons.2.cons.2.cons.2.cons.2
        have hb4 : Bytes [a, b, c, d] := hb.take 4
        simp only [word_Words.l0]
        rw [if_pos (by simp only [List.length_cons]; omega), if_pos (by simp only [List.length_cons]; omega), show (a :: b :: c :: d :: t).take 4 = [a, b, c, d] from rfl, value_f _ hb4 (by simp) k (by simp only [List.length_cons, List.length_nil]; omega)]
        simp only [Option.bind_some]
        rw [if_pos (by omega), show (a :: b :: c :: d :: t).drop 4 = t from rfl, ih t (by omega) hbt k _ (by omega) (by simp only [List.length_append, List.length_cons, List.length_nil]; omega)]
        simp [wordsOf]
    · have hw : wordsOf l = [] := by
        match l, h4 with
        | [], _ => rfl
        | [_], _ => rfl
        | [_, _], _ => rfl
        | [_, _, _], _ => rfl
        | _ :: _ :: _ :: _ :: t, h => simp at h
      simp only [word_Words.l0]
      rw [if_neg (by omega), hw, List.append_nil]
theorem words_f (l : List Int) (hb : Bytes l) (k : Nat) (hk : l.length + 6 ≤ k) (hl : l.length / 4 < 35184372088832) : word_Words.f k l = some (wordsOf l) := by
  unfold word_Words.f
  rw [words_l0 l.length l (Nat.le_refl _) hb k [] hk (by simpa using hl)]; simp
/-! a word turned -/
def rotl1 (x : Int) : Int := (2 * x) % 4294967296 + x / 2147483648
def rotr1 (x : Int) : Int := x / 2 + (x % 2) * 2147483648
def itl : Nat → Int → Int
  | 0, x => x
  | n + 1, x => rotl1 (itl n x)
def U32 (x : Int) : Prop := 0 ≤ x ∧ x < 4294967296
theorem rotl1_u (x : Int) (h : U32 x) : U32 (rotl1 x) := by unfold U32 rotl1 at *; omega
theorem rotr1_u (x : Int) (h : U32 x) : U32 (rotr1 x) := by unfold U32 rotr1 at *; omega
theorem rot_lr (x : Int) (h : U32 x) : rotl1 (rotr1 x) = x := by
  unfold U32 rotl1 rotr1 at *
  rcases (show x % 2 = 0 ∨ x % 2 = 1 by omega) with e | e <;> (rw [e]; omega)
theorem rot_rl (x : Int) (h : U32 x) : rotr1 (rotl1 x) = x := by
  unfold U32 rotl1 rotr1 at *
  rcases (show x / 2147483648 = 0 ∨ x / 2147483648 = 1 by omega) with e | e <;> (rw [e]; omega)
theorem rsplit (x Q : Int) (hQ : 0 < Q) (hx : 0 ≤ x) : ∃ hi b l : Int, x = hi * (2 * Q) + b * Q + l ∧ 0 ≤ hi ∧ 0 ≤ l ∧ l < Q ∧ (b = 0 ∨ b = 1) := by
  refine ⟨x / (2 * Q), (x % (2 * Q)) / Q, (x % (2 * Q)) % Q, ?_, Int.ediv_nonneg hx (by omega), Int.emod_nonneg _ (by omega), Int.emod_lt_of_pos _ hQ, ?_⟩
  · have h1 := Int.mul_ediv_add_emod x (2 * Q)
    have h2 := Int.mul_ediv_add_emod (x % (2 * Q)) Q
    rw [Int.mul_comm (x / (2 * Q)) (2 * Q), Int.mul_comm ((x % (2 * Q)) / Q) Q]
    omega
  · have h1 := Int.emod_lt_of_pos x (show 0 < 2 * Q by omega)
    have h3 := Int.emod_nonneg x (show 2 * Q ≠ 0 by omega)
    have h0 : 0 ≤ (x % (2 * Q)) / Q := Int.ediv_nonneg h3 (by omega)
    have h2 : (x % (2 * Q)) / Q < 2 := Int.ediv_lt_of_lt_mul hQ h1
    omega
theorem itl_u : ∀ (n : Nat) (x : Int), U32 x → U32 (itl n x)
  | 0, _, h => h
  | n + 1, x, h => rotl1_u _ (itl_u n x h)
theorem itl_add : ∀ (m n : Nat) (x : Int), itl (m + n) x = itl m (itl n x)
  | 0, n, x => by rw [Nat.zero_add]; rfl
  | m + 1, n, x => by rw [show m + 1 + n = (m + n) + 1 by omega]; simp only [itl]; rw [itl_add m n x]
theorem rot_step (x : Int) (h : U32 x) : ∀ s : Nat, s < 31 → rotl1 ((x * 2 ^ s) % 4294967296 + x / 2 ^ (32 - s)) = (x * 2 ^ (s + 1)) % 4294967296 + x / 2 ^ (32 - (s + 1)) := by
  intro s hs
  unfold U32 at h
  have hc : s = 0 ∨ s = 1 ∨ s = 2 ∨ s = 3 ∨ s = 4 ∨ s = 5 ∨ s = 6 ∨ s = 7 ∨ s = 8 ∨ s = 9 ∨ s = 10 ∨ s = 11 ∨ s = 12 ∨ s = 13 ∨ s = 14 ∨ s = 15 ∨ s = 16 ∨ s = 17 ∨ s = 18 ∨ s = 19 ∨ s = 20 ∨ s = 21 ∨ s = 22 ∨ s = 23 ∨ s = 24 ∨ s = 25 ∨ s = 26 ∨ s = 27 ∨ s = 28 ∨ s = 29 ∨ s = 30 := by omega
  obtain ⟨hi, b, l, e, h1, h2, h3, hb⟩ := rsplit x (2 ^ (31 - s)) (Int.pow_pos (by omega)) h.1
  have d1 : x / 2 ^ (32 - s) = hi := by
    rcases hc with rfl | rfl | rfl | rfl | rfl | rfl | rfl | rfl | rfl | rfl | rfl | rfl | rfl | rfl | rfl | rfl | rfl | rfl | rfl | rfl | rfl | rfl | rfl | rfl | rfl | rfl | rfl | rfl | rfl | rfl | rfl <;> rcases hb with rfl | rfl <;> (simp only [Nat.reduceAdd, Nat.reduceSub, Int.reducePow] at e h3 ⊢; subst e; omega)
  have d2 : x / 2 ^ (32 - (s + 1)) = 2 * hi + b := by
    rcases hc with rfl | rfl | rfl | rfl | rfl | rfl | rfl | rfl | rfl | rfl | rfl | rfl | rfl | rfl | rfl | rfl | rfl | rfl | rfl | rfl | rfl | rfl | rfl | rfl | rfl | rfl | rfl | rfl | rfl | rfl | rfl <;> rcases hb with rfl | rfl <;> (simp only [Nat.reduceAdd, Nat.reduceSub, Int.reducePow] at e h3 ⊢; subst e; omega)
  have d3 : (x * 2 ^ s) % 4294967296 = b * 2147483648 + l * 2 ^ s := by
    rcases hc with rfl | rfl | rfl | rfl | rfl | rfl | rfl | rfl | rfl | rfl | rfl | rfl | rfl | rfl | rfl | rfl | rfl | rfl | rfl | rfl | rfl | rfl | rfl | rfl | rfl | rfl | rfl | rfl | rfl | rfl | rfl <;> rcases hb with rfl | rfl <;> (simp only [Nat.reduceAdd, Nat.reduceSub, Int.reducePow] at e h3 ⊢; subst e; omega)
  have d4 : (x * 2 ^ (s + 1)) % 4294967296 = l * 2 ^ s * 2 := by
    rcases hc with rfl | rfl | rfl | rfl | rfl | rfl | rfl | rfl | rfl | rfl | rfl | rfl | rfl | rfl | rfl | rfl | rfl | rfl | rfl | rfl | rfl | rfl | rfl | rfl | rfl | rfl | rfl | rfl | rfl | rfl | rfl <;> rcases hb with rfl | rfl <;> (simp only [Nat.reduceAdd, Nat.reduceSub, Int.reducePow] at e h3 ⊢; subst e; omega)
  have d5 : 0 ≤ hi + l * 2 ^ s ∧ hi + l * 2 ^ s < 2147483648 := by
    rcases hc with rfl | rfl | rfl | rfl | rfl | rfl | rfl | rfl | rfl | rfl | rfl | rfl | rfl | rfl | rfl | rfl | rfl | rfl | rfl | rfl | rfl | rfl | rfl | rfl | rfl | rfl | rfl | rfl | rfl | rfl | rfl <;> rcases hb with rfl | rfl <;> (simp only [Nat.reduceAdd, Nat.reduceSub, Int.reducePow] at e h3 ⊢; subst e; omega)
  rw [d1, d2, d3, d4]
  clear d1 d2 d3 d4 hc e h3
  generalize l * 2 ^ s = m at *
  unfold rotl1
  rcases hb with rfl | rfl <;> omega
theorem itl_form (x : Int) (h : U32 x) : ∀ s : Nat, s < 32 → itl s x = (x * 2 ^ s) % 4294967296 + x / 2 ^ (32 - s)
  | 0, _ => by unfold U32 at h; simp only [itl, Nat.sub_zero, Int.reducePow]; omega
  | s + 1, hs => by
    simp only [itl]
    rw [itl_form x h s (by omega)]
    exact rot_step x h s (by omega)
theorem itl_32 (x : Int) (h : U32 x) : itl 32 x = x := by
  show rotl1 (itl 31 x) = x
  rw [itl_form x h 31 (by omega)]
  unfold U32 at h
  unfold rotl1
  simp only [Nat.reduceSub, Int.reducePow]
  rcases (show x % 2 = 0 ∨ x % 2 = 1 by omega) with e | e <;> omega
theorem itl_mod (x : Int) (h : U32 x) (n : Nat) : itl n x = itl (n % 32) x := by
  have key : ∀ q r : Nat, itl (32 * q + r) x = itl r x := by
    intro q
    induction q with
    | zero => intro r; rw [Nat.mul_zero, Nat.zero_add]
    | succ q ih => intro r; rw [show 32 * (q + 1) + r = 32 + (32 * q + r) by omega, itl_add 32, itl_32 _ (itl_u _ x h), ih r]
  have h2 := key (n / 32) (n % 32)
  rwa [Nat.div_add_mod] at h2
theorem tmod_form (n b : Int) (hb : 0 < b) : ∃ q, n = b * q + Int.tmod n b ∧ -b < Int.tmod n b ∧ Int.tmod n b < b := by
  refine ⟨Int.tdiv n b, (Int.mul_tdiv_add_tmod n b).symm, ?_, Int.tmod_lt_of_pos n hb⟩
  have h := Int.tmod_lt_of_pos (-n) hb
  rw [Int.neg_tmod] at h
  omega
theorem u64_and31 (a : Int) : Go.bits .and .u64 (IntKind.u64.wrap a) 31 = a % 32 := by
  have h := bits_mask .u64 64 (by decide) wraps_u64 5 (by decide) (a % 18446744073709551616) (by omega) (by omega)
  rw [u64w]
  have e : ((2 : Int) ^ 5 - 1) = 31 := by decide
  have e2 : ((2 : Int) ^ 5) = 32 := by decide
  rw [e, e2] at h
  rw [h]; omega
theorem rotate_f (x a : Int) (h : U32 x) : bits_RotateLeft32.f x a = some (itl (a % 32).toNat x) := by
  obtain ⟨s, hs⟩ : ∃ s : Nat, a % 32 = (s : Int) := ⟨(a % 32).toNat, by omega⟩
  have hlt : s < 32 := by omega
  unfold bits_RotateLeft32.f
  rw [u64_and31, hs, if_pos (by omega), u64w, show (32 - (s : Int)) % 18446744073709551616 = ((32 - s : Nat) : Int) by omega, if_pos (by omega), Int.toNat_natCast, itl_form x h s hlt]
  have e1 : shl .u32 x (s : Int) = (x * 2 ^ s) % 4294967296 := by
    unfold shl; rw [Int.toNat_natCast, IntKind.wrap_u32, show min s IntKind.u32.bits = s from Nat.min_eq_left (Nat.le_of_lt hlt)]
  have e2 : shr .u32 x ((32 - s : Nat) : Int) = x / 2 ^ (32 - s) := by
    unfold shr; rw [Int.toNat_natCast, show min (32 - s) IntKind.u32.bits = 32 - s from Nat.min_eq_left (Nat.sub_le _ _)]
  rw [e1, e2]
  have hp : (0 : Int) < 2 ^ (32 - s) := Int.pow_pos (by omega)
  have hq : (0 : Int) < 2 ^ s := Int.pow_pos (by omega)
  have hpq : (2 : Int) ^ s * 2 ^ (32 - s) = 4294967296 := by
    rw [← Int.pow_add, show s + (32 - s) = 32 by omega]; rfl
  have hlt2 : x / 2 ^ (32 - s) < 2 ^ s := by
    refine Int.ediv_lt_of_lt_mul hp ?_
    rw [hpq]; exact h.2
  have h0 : 0 ≤ x / 2 ^ (32 - s) := Int.ediv_nonneg h.1 (by omega)
  have hle : x / 2 ^ (32 - s) ≤ x := Int.ediv_le_self _ h.1
  have hm : ((x * 2 ^ s) % 4294967296) % 2 ^ s = 0 := by
    rw [Int.emod_emod_of_dvd _ ⟨2 ^ (32 - s), hpq.symm⟩, Int.mul_emod_left]
  unfold U32 at h
  rw [bits_join .u32 32 (by decide) wraps_u32 s _ _ (by omega) hm (by omega) h0 hlt2 (by omega)]
theorem rot_f (x n : Int) (h : U32 x) : word_Rot.f x n = some (itl ((-n) % 32).toNat x) := by
  obtain ⟨q, h1, h2, h3⟩ := tmod_form n 32 (by omega)
  unfold word_Rot.f
  rw [wrap64_id (by omega) (by omega), rotate_f _ _ h]
  simp only [Option.bind_some]
  rw [show (-Int.tmod n 32) % 32 = (-n) % 32 by omega]

/-! the hash -/
theorem u32_mod (x : Int) : U32 (x % 4294967296) := by unfold U32; omega
theorem u32_wrap (x : Int) : U32 (IntKind.u32.wrap x) := by rw [IntKind.wrap_u32]; exact u32_mod x
theorem bits_u (op : BinOp) (x y : Int) : U32 (Go.bits op .u32 x y) := by
  exact u32_wrap _
def rr (n : Int) (x : Int) : Int := itl ((-n) % 32).toNat x
def xo (a b c : Int) : Int := Go.bits .xor .u32 (Go.bits .xor .u32 a b) c
theorem turned_f (x a b c : Int) (h : U32 x) : sha_turned.f x a b c = some (xo (rr a x) (rr b x) (rr c x)) := by
  unfold sha_turned.f
  rw [rot_f x a h, rot_f x b h, rot_f x c h]
  rfl
theorem rd_word {l : List Int} (h : Words l) (i : Int) : U32 (rd l i) := by
  unfold rd
  rw [List.getD_eq_getElem?_getD]
  rcases Nat.lt_or_ge i.toNat l.length with hl | hl
  · rw [List.getElem?_eq_getElem hl]; exact h _ (List.getElem_mem hl)
  · rw [List.getElem?_eq_none hl]; unfold U32; simp
def nextw (w : List Int) : Int := let t := (w.length : Int); (((xo (rr 17 (rd w (t - 2))) (rr 19 (rd w (t - 2))) ((rd w (t - 2)) / 1024) + rd w (t - 7)) % 4294967296 + xo (rr 7 (rd w (t - 15))) (rr 18 (rd w (t - 15))) ((rd w (t - 15)) / 8)) % 4294967296 + rd w (t - 16)) % 4294967296
def grow : Nat → List Int → List Int
  | 0, w => w
  | n + 1, w => grow n (w ++ [nextw w])
theorem grow_len : ∀ n w, (grow n w).length = w.length + n
  | 0, _ => rfl
  | n + 1, w => by unfold grow; rw [grow_len n]; simp; omega
theorem grow_words : ∀ n w, Words w → Words (grow n w)
  | 0, _, h => h
  | n + 1, w, h => by
    unfold grow
    refine grow_words n _ (fun x hx => ?_)
    rcases List.mem_append.1 hx with hx | hx
    · exact h x hx
    · rw [List.mem_singleton.1 hx]; unfold nextw; exact u32_mod _
theorem sched_l0 : ∀ (n k : Nat) (w : List Int), w.length + n = 64 → 16 ≤ w.length → Words w → n < k → sha_schedule.l0 k w (w.length : Int) = some (grow n w)
  | 0, k, w, hl, h16, hw, hk => by
    obtain ⟨k, rfl⟩ := ex_succ hk
    unfold sha_schedule.l0
    rw [if_neg (by omega)]; rfl
  | n + 1, k, w, hl, h16, hw, hk => by
    obtain ⟨k, rfl⟩ := ex_succ hk
    unfold sha_schedule.l0
    have e15 : wrap64 ((w.length : Int) - 15) = (w.length : Int) - 15 := wrap64_id (by omega) (by omega)
    have e2 : wrap64 ((w.length : Int) - 2) = (w.length : Int) - 2 := wrap64_id (by omega) (by omega)
    have e7 : wrap64 ((w.length : Int) - 7) = (w.length : Int) - 7 := wrap64_id (by omega) (by omega)
    have e16 : wrap64 ((w.length : Int) - 16) = (w.length : Int) - 16 := wrap64_id (by omega) (by omega)
    have e1 : wrap64 ((w.length : Int) + 1) = ((w ++ [nextw w]).length : Int) := by rw [wrap64_id (by omega) (by omega)]; simp
    rw [if_pos (by omega), e15, e2, e7, e16, if_pos (by omega), if_pos (by omega), if_pos (by omega), if_pos (by omega), rot_f _ _ (rd_word hw _), rot_f _ _ (rd_word hw _), rot_f _ _ (rd_word hw _), rot_f _ _ (rd_word hw _)]
    simp only [Option.bind_some]
    rw [if_pos (by omega), if_pos (by omega), if_pos (by omega), if_pos (by omega), if_pos (by omega), e1]
    exact sched_l0 n k (w ++ [nextw w]) (by simp; omega) (by simp; omega) (fun x hx => by
      rcases List.mem_append.1 hx with hx | hx
      · exact hw x hx
      · rw [List.mem_singleton.1 hx]; unfold nextw; exact u32_mod _) (by omega)
theorem words_words : ∀ (n : Nat) (l : List Int), l.length ≤ n → Words (wordsOf l) := by
  intro n
  induction n with
  | zero => intro l hl; obtain rfl := List.eq_nil_of_length_eq_zero (Nat.le_zero.1 hl); intro x hx; simp [wordsOf] at hx
  | succ n ih =>
    intro l hl x hx
    match l, hl, hx with
    | a :: b :: c :: d :: t, hl, hx =>
      simp only [wordsOf, List.mem_cons] at hx
      rcases hx with rfl | hx
      · exact u32_mod _
      · exact ih t (by simp at hl; omega) x hx
    | [], _, hx => simp [wordsOf] at hx
    | [a], _, hx => simp [wordsOf] at hx
    | [a, b], _, hx => simp [wordsOf] at hx
    | [a, b, c], _, hx => simp [wordsOf] at hx
theorem words_len : ∀ (n : Nat) (l : List Int), l.length = 4 * n → (wordsOf l).length = n
  | 0, l, hl => by obtain rfl := List.eq_nil_of_length_eq_zero (by omega); rfl
  | n + 1, l, hl => by
    match l, hl with
    | a :: b :: c :: d :: t, hl =>
      simp only [wordsOf, List.length_cons]
      rw [words_len n t (by simp at hl; omega)]
    | [], hl => simp at hl
    | [a], hl => simp at hl; omega
    | [a, b], hl => simp at hl; omega
    | [a, b, c], hl => simp at hl; omega
def sched (b : List Int) : List Int := grow 48 (wordsOf b)
theorem sched_f (b : List Int) (hb : Bytes b) (hl : b.length = 64) (k : Nat) (hk : 80 ≤ k) : sha_schedule.f k b = some (sched b) := by
  unfold sha_schedule.f
  rw [words_f b hb k (by omega) (by omega)]
  simp only [Option.bind_some]
  have h16 : (wordsOf b).length = 16 := words_len 16 b (by omega)
  have h := sched_l0 48 k (wordsOf b) (by omega) (by omega) (words_words _ b (Nat.le_refl _)) (by omega)
  rw [h16] at h
  exact h
/-- The rounds of a block. -/
def rnds (ws : List Int) : Nat → Nat → Int → Int → Int → Int → Int → Int → Int → Int → List Int
  | 0, _, a, b, c, d, e, f, g, h => [a, b, c, d, e, f, g, h]
  | n + 1, i, a, b, c, d, e, f, g, h =>
    rnds ws n (i + 1) ((sb.x ws i e f g h (xo (rr 6 e) (rr 11 e) (rr 25 e)) + (xo (rr 2 a) (rr 13 a) (rr 22 a) + sb.mj a b c)) % 4294967296) a b c ((d + sb.x ws i e f g h (xo (rr 6 e) (rr 11 e) (rr 25 e))) % 4294967296) e f g
theorem sb_l0 (ws : List Int) (hl : ws.length = 64) : ∀ (n k i : Nat) (a b c d e f g h : Int), i + n = 64 → U32 a → U32 b → U32 c → U32 d → U32 e → U32 f → U32 g → U32 h → n < k → sb.l0 k ws i a b c d e f g h = some (rnds ws n i a b c d e f g h)
  | 0, k, i, a, b, c, d, e, f, g, h, hi, _, _, _, _, _, _, _, _, hk => by
    obtain ⟨k, rfl⟩ := ex_succ hk
    unfold sb.l0
    rw [if_neg (by omega)]; rfl
  | n + 1, k, i, a, b, c, d, e, f, g, h, hi, ha, hb, hc, hd, he, hf, hg, hh, hk => by
    obtain ⟨k, rfl⟩ := ex_succ hk
    unfold sb.l0
    rw [if_pos (by omega), if_pos (by omega), turned_f e 6 11 25 he, turned_f a 2 13 22 ha]
    simp only [Option.bind_some]
    exact sb_l0 ws hl n k (i + 1) _ _ _ _ _ _ _ _ (by omega) (u32_mod _) ha hb hc (u32_mod _) he hf hg (by omega)
def compress (s b : List Int) : List Int := sb.fin s (rnds (sched b) 64 0 (s[0]?.getD 0) (s[1]?.getD 0) (s[2]?.getD 0) (s[3]?.getD 0) (s[4]?.getD 0) (s[5]?.getD 0) (s[6]?.getD 0) (s[7]?.getD 0))
theorem u32_at {s : List Int} (h : Words s) (i : Nat) : U32 (s[i]?.getD 0) := by
  rcases Nat.lt_or_ge i s.length with hl | hl
  · rw [List.getElem?_eq_getElem hl]; exact h _ (List.getElem_mem hl)
  · rw [List.getElem?_eq_none hl]; unfold U32; simp
theorem compress_f (s b : List Int) (hs : Words s) (hb : Bytes b) (hl : b.length = 64) (k : Nat) (hk : 80 ≤ k) : sb.f k s b = some (compress s b) := by
  unfold sb.f
  rw [if_pos hl, sched_f b hb hl k hk]
  simp only [Option.bind_some]
  have hsl : (sched b).length = 64 := by unfold sched; rw [grow_len, words_len 16 b (by omega)]
  rw [sb_l0 (sched b) hsl 64 65 0 _ _ _ _ _ _ _ _ rfl (u32_at hs 0) (u32_at hs 1) (u32_at hs 2) (u32_at hs 3) (u32_at hs 4) (u32_at hs 5) (u32_at hs 6) (u32_at hs 7) (by omega)]
  rfl
theorem compress_words (s b : List Int) : Words (compress s b) := by
  intro x hx
  unfold compress sb.fin at hx
  simp only [List.mem_cons, List.not_mem_nil, or_false] at hx
  rcases hx with rfl | rfl | rfl | rfl | rfl | rfl | rfl | rfl <;> exact u32_mod _
theorem compress_len (s b : List Int) : (compress s b).length = 8 := rfl
/-- The blocks of a text, and what is left. -/
def feed : Nat → List Int → List Int → List Int × List Int
  | 0, s, al => (s, al)
  | n + 1, s, al => if 64 ≤ al.length then feed n (compress s (al.take 64)) (al.drop 64) else (s, al)
theorem mo_l0 (k : Nat) (hk : 80 ≤ k) : ∀ (n : Nat) (s al : List Int), Words s → Bytes al → al.length < 64 * n → mo.l0 k n s al = some (feed n s al)
  | 0, s, al, _, _, hl => by omega
  | n + 1, s, al, hs, hb, hl => by
    unfold mo.l0 feed
    by_cases h : 64 ≤ al.length
    · rw [if_pos h, if_pos h, compress_f s _ hs (hb.take 64) (by rw [List.length_take]; omega) k hk]
      simp only [Option.bind_some]
      exact mo_l0 k hk n _ _ (compress_words _ _) (hb.drop 64) (by rw [List.length_drop]; omega)
    · rw [if_neg h, if_neg h]
theorem feed_left : ∀ (n : Nat) (s al : List Int), al.length < 64 * n → Words s → Bytes al → (feed n s al).2.length < 64 ∧ Words (feed n s al).1 ∧ Bytes (feed n s al).2 ∧ (feed n s al).2.length = al.length % 64
  | 0, _, _, hl, _, _ => by omega
  | n + 1, s, al, hl, hs, hb => by
    unfold feed
    by_cases h : 64 ≤ al.length
    · rw [if_pos h]
      have hd : (al.drop 64).length = al.length - 64 := List.length_drop
      have := feed_left n (compress s (al.take 64)) (al.drop 64) (by omega) (compress_words _ _) (hb.drop 64)
      rw [hd] at this
      exact ⟨this.1, this.2.1, this.2.2.1, by rw [this.2.2.2]; omega⟩
    · rw [if_neg h]
      exact ⟨by show al.length < 64; omega, hs, hb, by show al.length = _; omega⟩
def finish (s lr : List Int) (m : Int) : List Int := if lr.length < 56 then compress s ((en.last lr).take 56 ++ p8 (m * 8 % 18446744073709551616)) else compress (compress s (en.last lr)) (z64.take 56 ++ p8 (m * 8 % 18446744073709551616))
theorem last_len (lr : List Int) (h : lr.length < 64) : (en.last lr).length = 64 := by unfold en.last; simp; omega
theorem last_bytes (lr : List Int) (hb : Bytes lr) : Bytes (en.last lr) := by
  intro x hx
  unfold en.last at hx
  rcases List.mem_or_eq_of_mem_set hx with hx | rfl
  · rcases List.mem_append.1 hx with hx | hx
    · exact hb x hx
    · rw [(List.mem_replicate.1 hx).2]; omega
  · omega
theorem bytes_app {a b : List Int} (ha : Bytes a) (hb : Bytes b) : Bytes (a ++ b) := fun x hx => (List.mem_append.1 hx).elim (ha x) (hb x)
theorem z64_bytes : Bytes z64 := fun x hx => by rw [(List.mem_replicate.1 hx).2]; omega
theorem n8_of {s : List Int} (h : s.length = 8) : n8 s = s := by
  match s, h with
  | [a, b, c, d, e, f, g, i], _ => rfl
theorem n8_words {s : List Int} (h : Words s) : Words (n8 s) := by
  intro x hx
  unfold n8 at hx
  simp only [List.mem_cons, List.not_mem_nil, or_false] at hx
  rcases hx with rfl | rfl | rfl | rfl | rfl | rfl | rfl | rfl <;> exact u32_at h _
theorem finish_f (s lr : List Int) (m : Int) (hs : Words s) (hs8 : s.length = 8) (hb : Bytes lr) (hl : lr.length < 64) (k : Nat) (hk : 80 ≤ k) : en.f k s lr m = some (bytesOf (finish s lr m)) := by
  have hu : U64 (m * 8 % 18446744073709551616) := by unfold U64; omega
  unfold en.f finish
  rw [if_pos hl, put_f _ hu k (by omega), n8_of hs8]
  simp only [Option.bind_some]
  rw [if_pos (p8_len _)]
  have hb8 : ∀ x, (bytesOf x).length = (bytesOf x).length := fun _ => rfl
  by_cases h56 : lr.length < 56
  · rw [if_pos h56, if_pos h56, compress_f s _ hs (bytes_app ((last_bytes lr hb).take 56) (p8_bytes _)) (by rw [List.length_append, List.length_take, last_len lr hl, p8_len]; rfl) k hk]
    simp only [Option.bind_some]
    exact bytes_f _ (by rw [compress_len]; omega) k (by rw [compress_len]; omega)
  · rw [if_neg h56, if_neg h56, compress_f s _ hs (last_bytes lr hb) (last_len lr hl) k hk]
    simp only [Option.bind_some]
    rw [compress_f _ _ (compress_words _ _) (bytes_app (z64_bytes.take 56) (p8_bytes _)) (by rw [List.length_append, List.length_take, p8_len]; rfl) k hk]
    simp only [Option.bind_some]
    exact bytes_f _ (by rw [compress_len]; omega) k (by rw [compress_len]; omega)
def shaSum (l : List Int) : List Int := bytesOf (finish (feed (l.length + 1) shaF l).1 (feed (l.length + 1) shaF l).2 ((l.length : Int) % 18446744073709551616))
theorem shaF_words : Words shaF := fun x hx => shaF_num x hx
theorem feed_len8 : ∀ (n : Nat) (s al : List Int), s.length = 8 → (feed n s al).1.length = 8
  | 0, _, _, h => h
  | n + 1, s, al, h => by
    unfold feed
    split
    · exact feed_len8 n _ _ (compress_len _ _)
    · exact h
theorem sum_f (l : List Int) (hb : Bytes l) (hl : l.length < 140737488355328) (k : Nat) (hk : 80 ≤ k) : sha_Sum.f k l = some (shaSum l) := by
  show sm.f k l = _
  unfold sm.f mo.f
  rw [List.nil_append, if_pos ⟨by simp, hl⟩, mo_l0 k hk (l.length + 1) shaF l shaF_words hb (by omega)]
  simp only [Option.bind_some]
  have h := feed_left (l.length + 1) shaF l (by omega) shaF_words hb
  exact finish_f _ _ _ h.2.1 (feed_len8 _ _ _ shaF_len) h.2.2.1 h.1 k hk
theorem bytesOf_len : ∀ l : List Int, (bytesOf l).length = 4 * l.length
  | [] => rfl
  | a :: t => by
    simp only [bytesOf, List.length_append, List.length_cons]
    rw [bytesOf_len t]
    show 4 + _ = _
    omega
theorem sum_len (l : List Int) : (shaSum l).length = 32 := by
  unfold shaSum finish
  rw [bytesOf_len]
  split <;> rfl
theorem sum_bytes (l : List Int) : Bytes (shaSum l) := bytesOf_bytes _
/-! a key's block, and a tag -/
theorem hfun : (fun k l => hmac_Block.f k l) = (fun k l => hmac_Block.f k l) := rfl
theorem pad_len (l : List Int) (h : l.length ≤ 64) : (hmac_Block.pad l).length = 64 := by
  unfold hmac_Block.pad
  simp
  omega
theorem pad_bytes (l : List Int) (h : Bytes l) : Bytes (hmac_Block.pad l) := by
  unfold hmac_Block.pad
  exact bytes_app (h.take 64) (Bytes.drop (fun x hx => by rw [(List.mem_replicate.1 hx).2]; omega) _)
theorem pad_form (l : List Int) (h : l.length ≤ 64) : hmac_Block.pad l = l ++ List.replicate (64 - l.length) 0 := by
  unfold hmac_Block.pad
  rw [List.take_of_length_le h, Nat.min_eq_left h, List.drop_replicate]
theorem pad_64 (l : List Int) (h : l.length = 64) : hmac_Block.pad l = l := by
  rw [pad_form l (by omega), h]
  simp
theorem pad_zero (l : List Int) (h : l.length < 64) : hmac_Block.pad (l ++ [0]) = hmac_Block.pad l := by
  rw [pad_form _ (by simp; omega), pad_form l (by omega), List.append_assoc]
  congr 1
  rw [List.length_append, List.length_singleton, show 64 - l.length = (64 - (l.length + 1)) + 1 by omega]
  rfl
def hblock (key : List Int) : List Int := if 64 < key.length then hmac_Block.pad (shaSum key) else hmac_Block.pad key
theorem hblock_len (key : List Int) : (hblock key).length = 64 := by
  unfold hblock
  split
  · exact pad_len _ (by rw [sum_len]; omega)
  · exact pad_len _ (by omega)
theorem hblock_bytes (key : List Int) (h : Bytes key) : Bytes (hblock key) := by
  unfold hblock
  split
  · exact pad_bytes _ (sum_bytes _)
  · exact pad_bytes _ h
theorem hblock_f (key : List Int) (hb : Bytes key) (hl : key.length < 140737488355328) (k : Nat) (hk : 80 ≤ k) : hmac_Block.f k key = some (hblock key) := by
  unfold hmac_Block.f hblock
  split
  · rw [sum_f key hb hl k hk]; rfl
  · rfl
theorem xor_byte (x y : Int) (hx : 0 ≤ x ∧ x ≤ 255) (hy : 0 ≤ y ∧ y ≤ 255) : 0 ≤ Go.bits .xor .u8 x y ∧ Go.bits .xor .u8 x y ≤ 255 := by
  unfold Go.bits
  rw [IntKind.wrap_u8]
  omega
theorem turn_l0 (x : Int) (n : Nat) : ∀ (d k i : Nat) (l : List Int), l.length = n → i + d = n → n ≤ 9223372036854775806 → d < k → hmac_turned.l0 k x l (n : Int) (i : Int) = some (l.take i ++ (l.drop i).map (fun y => Go.bits .xor .u8 y x))
  | 0, k, i, l, hl, hi, hn, hk => by
    obtain ⟨k, rfl⟩ := ex_succ hk
    unfold hmac_turned.l0
    rw [if_neg (by omega), List.take_of_length_le (by omega), List.drop_of_length_le (by omega)]
    simp
  | d + 1, k, i, l, hl, hi, hn, hk => by
    obtain ⟨k, rfl⟩ := ex_succ hk
    unfold hmac_turned.l0
    have hlt : i < l.length := by omega
    rw [if_pos (by omega), if_pos (by omega), if_pos (by omega), wrap64_id (by omega) (by omega), rd_at i hlt, Int.toNat_natCast]
    have h := turn_l0 x n d k (i + 1) (l.set i (Go.bits .xor .u8 l[i] x)) (by rw [List.length_set]; exact hl) (by omega) hn (by omega)
    rw [show ((i : Int) + 1) = ((i + 1 : Nat) : Int) by omega, h]
    congr 1
    rw [List.drop_set_of_lt (by omega), List.take_add_one, List.getElem?_set_self hlt, List.take_set, List.set_eq_of_length_le (by rw [List.length_take]; omega), List.drop_eq_getElem_cons hlt]
    simp
    rw [List.drop_eq_getElem_cons (l := l.map (fun y => Go.bits .xor .u8 y x)) (i := i) (by simpa using hlt)]
    simp
def turnBy (x : Int) (l : List Int) : List Int := l.map fun y => Go.bits .xor .u8 y x
theorem turned_hf (key : List Int) (x : Int) (hb : Bytes key) (hl : key.length < 140737488355328) (k : Nat) (hk : 80 ≤ k) : hmac_turned.f k key x = some (turnBy x (hblock key)) := by
  unfold hmac_turned.f
  rw [hblock_f key hb hl k hk]
  simp only [Option.bind_some]
  have h := turn_l0 x (hblock key).length (hblock key).length k 0 (hblock key) rfl (by omega) (by rw [hblock_len]; omega) (by rw [hblock_len]; omega)
  rw [show (0 : Int) = ((0 : Nat) : Int) from rfl, h]
  rfl
theorem turn_bytes (x : Int) (l : List Int) (hx : 0 ≤ x ∧ x ≤ 255) (h : Bytes l) : Bytes (turnBy x l) := by
  intro y hy
  obtain ⟨z, hz, rfl⟩ := List.mem_map.1 hy
  exact xor_byte z x (h z hz) hx
theorem concat2 (a b : List Int) (h : a.length + b.length < 140737488355328) : slices_Concat_byte_byte.f [a, b] = some (a ++ b) := by
  unfold slices_Concat_byte_byte.f
  rw [if_pos ⟨by simp, by simpa using h⟩]
  simp
def macOf (block msg : List Int) : List Int := shaSum (turnBy 92 block ++ shaSum (turnBy 54 block ++ msg))
theorem mac_f (key msg : List Int) (hb : Bytes key) (hm : Bytes msg) (hl : key.length < 1000000) (hlm : msg.length < 1000000) (k : Nat) (hk : 80 ≤ k) : hmac_Mac.f k key msg = some (macOf (hblock key) msg) := by
  have l1 : (turnBy 54 (hblock key)).length = 64 := by unfold turnBy; rw [List.length_map, hblock_len]
  have l2 : (turnBy 92 (hblock key)).length = 64 := by unfold turnBy; rw [List.length_map, hblock_len]
  have b1 := turn_bytes 54 _ (by omega) (hblock_bytes key hb)
  have b2 := turn_bytes 92 _ (by omega) (hblock_bytes key hb)
  unfold hmac_Mac.f
  rw [turned_hf key 54 hb (by omega) k hk]
  simp only [Option.bind_some]
  rw [concat2 _ _ (by omega)]
  simp only [Option.bind_some]
  rw [sum_f _ (bytes_app b1 hm) (by rw [List.length_append]; omega) k hk]
  simp only [Option.bind_some]
  rw [turned_hf key 92 hb (by omega) k hk]
  simp only [Option.bind_some]
  rw [concat2 _ _ (by rw [sum_len]; omega)]
  simp only [Option.bind_some]
  rw [sum_f _ (bytes_app b2 (sum_bytes _)) (by rw [List.length_append, sum_len]; omega) k hk]
  rfl
/-! unlike -/
def dif : List Int → List Int → Nat
  | x :: a, y :: b => (if x = y then 0 else 1) + dif a b
  | _, _ => 0
def unl (a b : List Int) : Nat := (max a.length b.length - min a.length b.length) + dif a b
theorem dif_nil_left (b : List Int) : dif [] b = 0 := by unfold dif; rfl
theorem dif_nil_right (a : List Int) : dif a [] = 0 := by cases a <;> rfl
theorem dif_le : ∀ (a b : List Int), dif a b ≤ min a.length b.length
  | [], b => by simp [dif_nil_left]
  | _ :: _, [] => by simp [dif]
  | x :: a, y :: b => by
    have := dif_le a b
    simp only [dif, List.length_cons]
    split <;> omega
theorem xor_step (x y : Int) (hx : 0 ≤ x ∧ x ≤ 255) (hy : 0 ≤ y ∧ y ≤ 255) : ((((Go.bits .xor .u8 x y) % 4294967296) + 255) % 4294967296) / 256 = if x = y then 0 else 1 := by
  rw [u8_xor x y hx.1 (by omega) hy.1 (by omega)]
  have hlt : x.toNat ^^^ y.toNat < 2 ^ 8 := Nat.xor_lt_two_pow (by omega) (by omega)
  by_cases e : x = y
  · subst e; rw [if_pos rfl, Nat.xor_self]; rfl
  · rw [if_neg e]
    have hne : x.toNat ^^^ y.toNat ≠ 0 := by
      intro h0
      have h2 : (x.toNat ^^^ y.toNat) ^^^ y.toNat = x.toNat := by rw [Nat.xor_assoc, Nat.xor_self, Nat.xor_zero]
      rw [h0, Nat.zero_xor] at h2
      omega
    omega
theorem mx_eq (a b : Nat) : mx (a : Int) (b : Int) = ((max a b : Nat) : Int) := by unfold mx; split <;> omega
theorem mn_eq (a b : Nat) : mn (a : Int) (b : Int) = ((min a b : Nat) : Int) := by unfold mn; split <;> omega
theorem unlike_l0 (a b : List Int) (ha : Bytes a) (hb : Bytes b) (hla : a.length ≤ 1000000) (hlb : b.length ≤ 1000000) :
    ∀ (d k : Nat) (n i : Nat), i + d = min a.length b.length → d < k → n ≤ 2000000 + i → trunc_Unlike.l0 k a b (n : Int) ((min a.length b.length : Nat) : Int) (i : Int) = some ((n + dif (a.drop i) (b.drop i) : Nat) : Int) := by
  intro d
  induction d with
  | zero =>
    intro k n i hi hk hn
    obtain ⟨k, rfl⟩ := ex_succ hk
    simp only [trunc_Unlike.l0]
    rw [if_neg (by omega)]
    have : dif (a.drop i) (b.drop i) = 0 := by
      rcases Nat.le_total a.length b.length with h | h
      · rw [show a.drop i = [] from List.drop_eq_nil_of_le (by omega), dif_nil_left]
      · rw [show b.drop i = [] from List.drop_eq_nil_of_le (by omega), dif_nil_right]
    rw [this]; rfl
  | succ d ih =>
    intro k n i hi hk hn
    obtain ⟨k, rfl⟩ := ex_succ hk
    have h1 : i < a.length := by omega
    have h2 : i < b.length := by omega
    simp only [trunc_Unlike.l0]
    rw [if_pos (by omega), if_pos (by omega), if_pos (by omega), if_pos (by omega), xor_step _ _ (rd_bytes ha _) (rd_bytes hb _), rd_at i h1, rd_at i h2, List.drop_eq_getElem_cons h1, List.drop_eq_getElem_cons h2, wrap64_id (n := (i : Int) + 1) (by omega) (by omega), show ((i : Int) + 1) = ((i + 1 : Nat) : Int) by omega]
    simp only [dif]
    by_cases e : a[i] = b[i]
    · rw [if_pos e, if_pos e, wrap64_id (by omega) (by omega), Int.add_zero, ih k n (i + 1) (by omega) (by omega) (by omega), Nat.zero_add]
    · rw [if_neg e, if_neg e, wrap64_id (by omega) (by omega), show ((n : Int) + 1) = ((n + 1 : Nat) : Int) by omega, ih k (n + 1) (i + 1) (by omega) (by omega) (by omega), Nat.add_assoc]
theorem unlike_f (a b : List Int) (ha : Bytes a) (hb : Bytes b) (hla : a.length ≤ 1000000) (hlb : b.length ≤ 1000000) (k : Nat) (hk : min a.length b.length < k) : trunc_Unlike.f k a b = some ((unl a b : Nat) : Int) := by
  unfold trunc_Unlike.f
  rw [mx_eq, mn_eq, wrap64_id (by omega) (by omega), show (((max a.length b.length : Nat) : Int) - ((min a.length b.length : Nat) : Int)) = ((max a.length b.length - min a.length b.length : Nat) : Int) by omega,
    show (0 : Int) = ((0 : Nat) : Int) from rfl, unlike_l0 a b ha hb hla hlb _ k _ 0 (by omega) hk (by omega)]
  rfl
theorem same_f (a b : List Int) (ha : Bytes a) (hb : Bytes b) (hla : a.length ≤ 1000000) (hlb : b.length ≤ 1000000) (k : Nat) (hk : min a.length b.length < k) : trunc_Same.f k a b = some (((unl a b : Nat) : Int) == 0) := by
  unfold trunc_Same.f
  rw [unlike_f a b ha hb hla hlb k hk]; rfl
theorem dif_comm : ∀ (a b : List Int), dif a b = dif b a
  | [], b => by rw [dif_nil_left, dif_nil_right]
  | _ :: _, [] => by rw [dif_nil_left, dif_nil_right]
  | x :: a, y :: b => by
    simp only [dif]
    rw [dif_comm a b]
    by_cases e : x = y
    · rw [if_pos e, if_pos e.symm]
    · rw [if_neg e, if_neg (fun h => e h.symm)]
theorem unl_comm (a b : List Int) : unl a b = unl b a := by unfold unl; rw [dif_comm a b]; omega
theorem unl_le (a b : List Int) : unl a b ≤ max a.length b.length := by have := dif_le a b; unfold unl; omega
theorem dif_zero : ∀ (a b : List Int), a.length = b.length → dif a b = 0 → a = b
  | [], [], _, _ => rfl
  | [], _ :: _, h, _ => by simp at h
  | _ :: _, [], h, _ => by simp at h
  | x :: a, y :: b, h, h0 => by
    simp only [dif] at h0
    by_cases e : x = y
    · rw [if_pos e] at h0
      rw [e, dif_zero a b (by simpa using h) (by omega)]
    · rw [if_neg e] at h0; omega
theorem dif_self : ∀ (a : List Int), dif a a = 0
  | [] => rfl
  | x :: a => by simp [dif, dif_self a]
theorem unl_zero (a b : List Int) : unl a b = 0 ↔ a = b := by
  constructor
  · intro h
    unfold unl at h
    exact dif_zero a b (by omega) (by omega)
  · intro h; subst h; unfold unl; rw [dif_self]; omega
/-! terms -/
def T1 (x y : S60) : Prop := (strOfNums x.f0).toList = (strOfNums y.f0).toList ∧ (strOfNums x.f1).toList = (strOfNums y.f1).toList
theorem rd60 (l : List S60) (i : Nat) (h : i < l.length) : rd_T60 l (i : Int) = l[i] := by
  unfold rd_T60; simp [List.getD_eq_getElem?_getD, List.getElem?_eq_getElem h]
/-- The place of the first term from i on that is (a, b); -1: there is none. -/
def PlaceAt (l : List S60) (x : S60) (i : Nat) (r : Int) : Prop :=
  (r = -1 ∧ ∀ (j : Nat) (h : j < l.length), i ≤ j → ¬ T1 l[j] x) ∨ (∃ (n : Nat) (h : n < l.length), r = (n : Int) ∧ i ≤ n ∧ T1 l[n] x ∧ ∀ (j : Nat) (h : j < l.length), i ≤ j → j < n → ¬ T1 l[j] x)
theorem PlaceAt.unique {l : List S60} {x : S60} {i : Nat} {r s : Int} (h : PlaceAt l x i r) (k : PlaceAt l x i s) : r = s := by
  rcases h with ⟨rfl, h⟩ | ⟨n, hn, rfl, h1, h2, h3⟩
  · rcases k with ⟨rfl, _⟩ | ⟨m, hm, rfl, k1, k2, _⟩
    · rfl
    · exact absurd k2 (h m hm k1)
  · rcases k with ⟨rfl, k⟩ | ⟨m, hm, rfl, k1, k2, k3⟩
    · exact absurd h2 (k n hn h1)
    · rcases Nat.lt_trichotomy n m with hlt | heq | hgt
      · exact absurd h2 (k3 n hn h1 hlt)
      · rw [heq]
      · exact absurd k2 (h3 m hm k1 hgt)
theorem place_l0 (l : List S60) (a b : List Int) (hl : l.length ≤ 9223372036854775806) : ∀ (d k i : Nat), i + d = l.length → d < k → ∃ r, term_Place.l0 k l a b (i : Int) = some r ∧ PlaceAt l ⟨a, b⟩ i r := by
  intro d
  induction d with
  | zero =>
    intro k i hi hk
    obtain ⟨k, rfl⟩ := ex_succ hk
    exact ⟨-1, by simp only [term_Place.l0]; rw [if_neg (by omega)], .inl ⟨rfl, fun j h hj => by omega⟩⟩
  | succ d ih =>
    intro k i hi hk
    obtain ⟨k, rfl⟩ := ex_succ hk
    have hlt : i < l.length := by omega
    obtain ⟨r, hr, hp⟩ := ih k (i + 1) (by omega) (by omega)
    have hw : wrap64 ((i : Int) + 1) = ((i + 1 : Nat) : Int) := by rw [wrap64_id (by omega) (by omega)]; omega
    have next : ¬ T1 l[i] ⟨a, b⟩ → PlaceAt l ⟨a, b⟩ i r := by
      intro hne
      rcases hp with ⟨rfl, hp⟩ | ⟨n, hn, rfl, h1, h2, h3⟩
      · refine .inl ⟨rfl, fun j h hj => ?_⟩
        rcases Nat.eq_or_lt_of_le hj with rfl | hj
        · exact hne
        · exact hp j h hj
      · refine .inr ⟨n, hn, rfl, by omega, h2, fun j h hj hjn => ?_⟩
        rcases Nat.eq_or_lt_of_le hj with rfl | hj
        · exact hne
        · exact h3 j h hj hjn
    simp only [term_Place.l0]
    rw [if_pos (by omega), if_pos (by omega), rd60 l i hlt, hw]
    by_cases e0 : (strOfNums l[i].f0).toList = (strOfNums a).toList
    · rw [if_pos e0]
      by_cases e1 : (strOfNums l[i].f1).toList = (strOfNums b).toList
      · rw [if_pos e1]; exact ⟨_, rfl, .inr ⟨i, hlt, rfl, Nat.le_refl _, ⟨e0, e1⟩, fun j h h1 h2 => by omega⟩⟩
      · rw [if_neg e1]; exact ⟨r, hr, next (fun h => e1 h.2)⟩
    · rw [if_neg e0]; exact ⟨r, hr, next (fun h => e0 h.1)⟩
theorem place_f (l : List S60) (a b : List Int) (hl : l.length ≤ 9223372036854775806) : ∃ r, term_Place.f l a b = some r ∧ PlaceAt l ⟨a, b⟩ 0 r := by
  unfold term_Place.f
  exact place_l0 l a b hl l.length _ 0 (by omega) (by omega)
theorem T1.symm {x y : S60} (h : T1 x y) : T1 y x := ⟨h.1.symm, h.2.symm⟩
theorem T1.trans {x y z : S60} (h : T1 x y) (k : T1 y z) : T1 x z := ⟨h.1.trans k.1, h.2.trans k.2⟩
theorem key_eq (x y : S60) : term_Right.key x = term_Right.key y ↔ T1 x y := by
  unfold term_Right.key T1
  simp only [toList_data, Prod.mk.injEq]
theorem nodup_iff (l : List S60) : (l.map term_Right.key).Nodup ↔ ∀ (i j : Nat) (hi : i < l.length) (hj : j < l.length), i < j → ¬ T1 l[i] l[j] := by
  rw [List.nodup_iff_pairwise_ne, List.pairwise_map, List.pairwise_iff_getElem]
  exact ⟨fun h i j hi hj hlt hT => h i j hi hj hlt ((key_eq _ _).2 hT), fun h i j hi hj hlt he => h i j hi hj hlt ((key_eq _ _).1 he)⟩
/-- Terms that aren't too much. -/
def Small (l : List S60) : Prop := l.length ≤ 400 ∧ ∀ x ∈ l, x.f0.length ≤ 3000 ∧ x.f1.length ≤ 3000
theorem own_f (a b : List Int) (ha : a.length < 140737488355328) (hb : b.length < 140737488355328) : term_own.f a b = some (a, b) := by
  unfold term_own.f
  rw [clone_f a ha, clone_f b hb]; rfl
theorem cloneT_f (l : List S60) (h : l.length < 2932031007402) : api_Term.f l = some l := by
  unfold api_Term.f; rw [if_pos h]
theorem put_terms (l : List S60) (a b : List Int) (hl : l.length < 2932031007402) (ha : a.length < 140737488355328) (hb : b.length < 140737488355328) (k : Nat) (hk : 2 < k) :
    ∃ r, term_Place.f l a b = some r ∧ PlaceAt l ⟨a, b⟩ 0 r ∧ term_Put.f k l a b = some (if r = -1 then (l ++ [⟨a, b⟩], p8 ((l.length : Int) + 1)) else (l, p8 (r + 1))) := by
  obtain ⟨r, hr, hp⟩ := place_f l a b (by omega)
  refine ⟨r, hr, hp, ?_⟩
  unfold term_Put.f
  rw [hr]
  simp only [Option.bind_some]
  by_cases e : r = -1
  · rw [if_pos e, if_pos e, cloneT_f l hl, own_f a b ha hb]
    simp only [Option.bind_some]
    rw [if_pos hl, u64w, u64w, show ((l.length : Int) % 18446744073709551616 + 1) % 18446744073709551616 = (l.length : Int) + 1 by omega, put_f _ (by unfold U64; omega) k hk]
    rfl
  · rw [if_neg e, if_neg e]
    have hr0 : 0 ≤ r ∧ r < (l.length : Int) := by
      rcases hp with ⟨h, _⟩ | ⟨n, hn, rfl, _⟩
      · exact absurd h e
      · omega
    rw [u64w, u64w, show (r % 18446744073709551616 + 1) % 18446744073709551616 = r + 1 by omega, put_f _ (by unfold U64; omega) k hk]
    rfl
theorem short_step (k : Nat) (l : List S60) (i : Nat) (hi : i < l.length) (h4 : i < 400) : wristbandref05_Short.l0 (k + 1 + 1) l (i : Int) = if l[i].f0.length > 3000 then some false else if l[i].f1.length > 3000 then some false else wristbandref05_Short.l0 k l ((i + 1 : Nat) : Int) := by
  have hw : wrap64 ((i : Int) + 1) = ((i + 1 : Nat) : Int) := by rw [wrap64_id (by omega) (by omega)]; omega
  rw [wristbandref05_Short.l0, if_pos (by omega), decide_eq_true (show (i : Int) < 400 by omega), wristbandref05_Short.j1, if_pos rfl, if_pos (by omega), if_pos (by omega), rd60 l i hi, hw]
  by_cases e0 : l[i].f0.length > 3000
  · rw [if_pos e0, if_pos (by omega)]
  · rw [if_neg e0, if_neg (by omega)]
    by_cases e1 : l[i].f1.length > 3000
    · rw [if_pos e1, if_pos (by omega)]
    · rw [if_neg e1, if_neg (by omega)]
theorem short_end (k : Nat) (l : List S60) (i : Nat) (h : l.length ≤ i ∨ 400 ≤ i) : wristbandref05_Short.l0 (k + 1 + 1) l (i : Int) = some (decide ((l.length : Int) ≤ 400)) := by
  rw [wristbandref05_Short.l0]
  by_cases e : (i : Int) < (l.length : Int)
  · rw [if_pos e, decide_eq_false (show ¬ (i : Int) < 400 by omega), wristbandref05_Short.j1, if_neg (by decide)]
  · rw [if_neg e, wristbandref05_Short.j1, if_neg (by decide)]
theorem short_l0 (l : List S60) : ∀ (d k i : Nat), i + d = min l.length 400 → 2 * d + 2 ≤ k → ∃ t, wristbandref05_Short.l0 k l (i : Int) = some t ∧ (t = true → l.length ≤ 400 ∧ ∀ (j : Nat) (h : j < l.length), i ≤ j → l[j].f0.length ≤ 3000 ∧ l[j].f1.length ≤ 3000) := by
  intro d
  induction d with
  | zero =>
    intro k i hi hk
    obtain ⟨k, rfl⟩ : ∃ m, k = m + 1 + 1 := ⟨k - 2, by omega⟩
    exact ⟨_, short_end k l i (by omega), fun h => ⟨by have := of_decide_eq_true h; omega, fun j hj hij => by have := of_decide_eq_true h; omega⟩⟩
  | succ d ih =>
    intro k i hi hk
    obtain ⟨k, rfl⟩ : ∃ m, k = m + 1 + 1 := ⟨k - 2, by omega⟩
    have hlt : i < l.length := by omega
    rw [short_step k l i hlt (by omega)]
    by_cases e0 : l[i].f0.length > 3000
    · rw [if_pos e0]; exact ⟨_, rfl, fun h => by cases h⟩
    · rw [if_neg e0]
      by_cases e1 : l[i].f1.length > 3000
      · rw [if_pos e1]; exact ⟨_, rfl, fun h => by cases h⟩
      · rw [if_neg e1]
        obtain ⟨t, ht, hh⟩ := ih k (i + 1) (by omega) (by omega)
        refine ⟨t, ht, fun h => ⟨(hh h).1, fun j hj hij => ?_⟩⟩
        rcases Nat.eq_or_lt_of_le hij with rfl | hij
        · exact ⟨by omega, by omega⟩
        · exact (hh h).2 j hj hij
theorem short_f (l : List S60) (k : Nat) (hk : 802 ≤ k) : ∃ t, wristbandref05_Short.f k l = some t ∧ (t = true → Small l) := by
  obtain ⟨t, ht, hh⟩ := short_l0 l (min l.length 400) k 0 (by omega) (by omega)
  refine ⟨t, ht, fun h => ⟨(hh h).1, fun x hx => ?_⟩⟩
  obtain ⟨j, hj, rfl⟩ := List.getElem_of_mem hx
  exact (hh h).2 j hj (Nat.zero_le _)
/-- The first term that is x lies at n. -/
structure Fst (m : List S60) (x : S60) (n : Nat) : Prop where
  lt : n < m.length
  at_ : T1 (m[n]'lt) x
  first : ∀ (j : Nat) (h : j < m.length), j < n → ¬ T1 m[j] x
theorem Fst.place {m : List S60} {x : S60} {n : Nat} (h : Fst m x n) : PlaceAt m x 0 (n : Int) := .inr ⟨n, h.lt, rfl, Nat.zero_le _, h.at_, fun j hj _ hjn => h.first j hj hjn⟩
theorem Fst.unique {m : List S60} {x : S60} {n q : Nat} (h : Fst m x n) (k : Fst m x q) : n = q := by
  have := h.place.unique k.place
  omega
theorem Fst.append {m : List S60} {x : S60} {n : Nat} (h : Fst m x n) (y : S60) : Fst (m ++ [y]) x n where
  lt := by have := h.lt; simp; omega
  at_ := by have := h.lt; rw [List.getElem_append_left this]; exact h.at_
  first := fun j hj hjn => by have := h.lt; rw [List.getElem_append_left (by omega)]; exact h.first j (by omega) hjn
theorem Fst.other {m : List S60} {x y : S60} {n : Nat} (h : Fst m x n) (e : T1 x y) : Fst m y n where
  lt := h.lt
  at_ := h.at_.trans e
  first := fun j hj hjn hT => h.first j hj hjn (hT.trans e.symm)
def InB (m : List S60) : Prop := ∀ x ∈ m, x.f0.length ≤ 3000 ∧ x.f1.length ≤ 3000
def Nd (m : List S60) : Prop := (m.map term_Right.key).Nodup
theorem put_next (l : List S60) (a b : List Int) (hl : l.length ≤ 1000000) (ha : a.length ≤ 3000) (hb : b.length ≤ 3000) (k : Nat) (hk : 2 < k) :
    ∃ (m : List S60) (q : Nat), term_Put.f k l a b = some (m, p8 ((q : Int) + 1)) ∧ Fst m ⟨a, b⟩ q ∧ (m = l ∨ m = l ++ [⟨a, b⟩]) ∧ (Nd l → Nd m) ∧ (InB l → InB m) := by
  obtain ⟨r, hr, hp, hput⟩ := put_terms l a b (by omega) (by omega) (by omega) k hk
  rw [hput]
  rcases hp with ⟨rfl, hn⟩ | ⟨n, hn, rfl, _, h2, h3⟩
  · rw [if_pos rfl]
    refine ⟨_, l.length, rfl, ⟨by simp, by simp only [List.getElem_append_right (Nat.le_refl _), Nat.sub_self, List.getElem_cons_zero]; exact ⟨rfl, rfl⟩, fun j hj hjn => by rw [List.getElem_append_left hjn]; exact hn j hjn (Nat.zero_le _)⟩, .inr rfl, fun h => ?_, fun h x hx => ?_⟩
    · unfold Nd at *
      rw [List.map_append]
      refine List.nodup_append.2 ⟨h, by simp, fun p hp q hq e => ?_⟩
      simp only [List.map_cons, List.map_nil, List.mem_singleton] at hq
      subst hq
      obtain ⟨z, hz, rfl⟩ := List.mem_map.1 hp
      obtain ⟨j, hj, rfl⟩ := List.getElem_of_mem hz
      exact hn j hj (Nat.zero_le _) ((key_eq _ _).1 e)
    · rcases List.mem_append.1 hx with hx | hx
      · exact h x hx
      · obtain rfl := List.mem_singleton.1 hx; exact ⟨ha, hb⟩
  · rw [if_neg (by omega)]
    exact ⟨_, n, rfl, ⟨hn, h2, fun j hj hjn => h3 j hj (Nat.zero_le _) hjn⟩, .inl rfl, id, id⟩
theorem right_nd {m : List S60} (h : Nd m) : term_Right.f m = some true := by
  unfold term_Right.f; rw [decide_eq_true (show (m.map term_Right.key).Nodup from h)]
/-! MacSymbolic: an engine's tag, and what fits it -/
theorem dif_cons (x y : Int) (a b : List Int) : dif (x :: a) (y :: b) = (if x = y then 0 else 1) + dif a b := rfl
theorem samed (b t : List Int) (hb : Bytes b) (ht : Bytes t) (hl : b.length ≤ 1000000) (hlt : t.length ≤ 1000000) (k : Nat) (hk : b.length < k) : trunc_Same.f k b t = some (decide (b = t)) := by
  rw [same_f b t hb ht hl hlt k (by omega)]
  by_cases e : b = t
  · rw [decide_eq_true e, (unl_zero b t).2 e]; rfl
  · rw [decide_eq_false e]
    have h : unl b t ≠ 0 := fun h => e ((unl_zero b t).1 h)
    rw [show (((unl b t : Nat) : Int) == 0) = false from beq_eq_false_iff_ne.2 (by omega)]
/-- What fits: just the tag b. -/
def OnlyFits (k : Nat) (kd : Int) (l : List S60) (key msg b : List Int) : Prop := ∀ t : List Int, Bytes t → t.length ≤ 1000000 → mac_Fits.f k kd l key msg t = some (decide (b = t))
def tag1 (key msg : List Int) : List Int := (macOf (hblock key) msg).take 8
theorem mac_len (key msg : List Int) : (macOf (hblock key) msg).length = 32 := sum_len _
theorem tag1_len (key msg : List Int) : (tag1 key msg).length = 8 := by unfold tag1; rw [List.length_take, mac_len]; rfl
theorem tag1_bytes (key msg : List Int) : Bytes (tag1 key msg) := Bytes.take (sum_bytes _) 8
theorem right1 : mac_Right.f 1 [] = some true := by unfold mac_Right.f; rw [if_pos rfl]; rfl
theorem tag_con (k : Nat) (hk : 100 ≤ k) (key msg : List Int) (hb : Bytes key) (hm : Bytes msg) (hl : key.length ≤ 3000) (hlm : msg.length ≤ 3000) : mac_Tag.f k 1 [] key msg = some (1, [], tag1 key msg, 0) := by
  unfold mac_Tag.f
  rw [right1]
  rw [Option.bind_some]
  rw [if_pos rfl, if_pos rfl, mac_f key msg hb hm (by omega) (by omega) k (by omega)]
  rw [Option.bind_some]
  rw [if_pos (by rw [mac_len]; omega)]
  rfl
theorem fits_con (k : Nat) (hk : 100 ≤ k) (key msg : List Int) (hb : Bytes key) (hm : Bytes msg) (hl : key.length ≤ 3000) (hlm : msg.length ≤ 3000) : OnlyFits k 1 [] key msg (tag1 key msg) := by
  intro t ht hlt
  unfold mac_Fits.f
  rw [right1]
  rw [Option.bind_some]
  rw [if_pos rfl, if_pos rfl, mac_f key msg hb hm (by omega) (by omega) k (by omega)]
  rw [Option.bind_some]
  rw [if_pos (by rw [mac_len]; omega)]
  exact samed _ t (tag1_bytes key msg) ht (by have := tag1_len key msg; omega) hlt k (by have := tag1_len key msg; omega)
theorem right2 {m : List S60} (h : Nd m) : mac_Right.f 2 m = some true := by unfold mac_Right.f; rw [if_neg (by decide), if_pos rfl]; exact right_nd h
theorem tag_sym (k : Nat) (l m : List S60) (key msg b : List Int) (hn : Nd l) (h : term_Put.f k l key msg = some (m, b)) : mac_Tag.f k 2 l key msg = some (2, m, b, 0) := by
  unfold mac_Tag.f
  rw [right2 hn]
  rw [Option.bind_some]
  rw [if_pos rfl, if_neg (by decide), h]
  rfl
theorem fits_sym (k : Nat) (hk : 100 ≤ k) (m : List S60) (key msg : List Int) (q : Nat) (hn : Nd m) (hf : Fst m ⟨key, msg⟩ q) (hl : m.length ≤ 1000000) (hlk : key.length ≤ 3000) (hlm : msg.length ≤ 3000) : OnlyFits k 2 m key msg (p8 ((q : Int) + 1)) := by
  intro t ht hlt
  obtain ⟨r, hr, hp, hput⟩ := put_terms m key msg (by omega) (by omega) (by omega) k (by omega)
  have e : r = (q : Int) := hp.unique hf.place
  subst e
  unfold mac_Fits.f
  rw [right2 hn]
  rw [Option.bind_some]
  rw [if_pos rfl, if_neg (by decide), hr]
  rw [Option.bind_some]
  rw [if_pos (by omega), hput, if_neg (by omega)]
  rw [Option.bind_some]
  exact samed _ t (p8_bytes _) ht (by rw [p8_len]; omega) hlt k (by rw [p8_len]; omega)
theorem fits_none (k : Nat) (m : List S60) (key msg t : List Int) (hn : Nd m) (h : term_Place.f m key msg = some (-1)) : mac_Fits.f k 2 m key msg t = some false := by
  unfold mac_Fits.f
  rw [right2 hn]
  rw [Option.bind_some]
  rw [if_pos rfl, if_neg (by decide), h]
  rfl
theorem xor_zero (x y : Int) (hx : 0 ≤ x ∧ x ≤ 255) (hy : 0 ≤ y ∧ y ≤ 255) : Go.bits .xor .u8 x y = x ↔ y = 0 := by
  rw [u8_xor x y hx.1 (by omega) hy.1 (by omega)]
  constructor
  · intro h
    have h0 : x.toNat ^^^ y.toNat = x.toNat := by omega
    have h2 : x.toNat ^^^ (x.toNat ^^^ y.toNat) = y.toNat := by rw [← Nat.xor_assoc, Nat.xor_self, Nat.zero_xor]
    rw [h0, Nat.xor_self] at h2
    omega
  · rintro rfl
    rw [show (0 : Int).toNat = 0 from rfl, Nat.xor_zero]
    omega
theorem turned_eq (b : List Int) (hb : Bytes b) (j : Nat) (hj : j < b.length) (y : Int) (hy : 0 ≤ y ∧ y ≤ 255) : decide (b = b.set j (Go.bits .xor .u8 (rd b (j : Int)) y)) = (y == 0) := by
  have h1 := xor_zero (rd b (j : Int)) y (rd_bytes hb _) hy
  have h2 := rd_at j hj
  by_cases e : y = 0
  · rw [h1.2 e, h2, decide_eq_true (by rw [List.set_getElem_self]), e]; rfl
  · rw [beq_eq_false_iff_ne.2 e]
    refine decide_eq_false fun h => e (h1.1 ?_)
    have h3 : b[j]? = (b.set j (Go.bits .xor .u8 (rd b (j : Int)) y))[j]? := congrArg (fun l : List Int => l[j]?) h
    rw [List.getElem?_set_self hj, List.getElem?_eq_getElem hj] at h3
    exact (Option.some.inj h3).symm.trans h2.symm
theorem set_bytes (b : List Int) (hb : Bytes b) (j : Nat) (v : Int) (hv : 0 ≤ v ∧ v ≤ 255) : Bytes (b.set j v) := by
  intro x hx
  rcases List.mem_or_eq_of_mem_set hx with h | h
  · exact hb x h
  · rw [h]; exact hv
theorem right_tot (a : Int) (l : List S60) : ∃ r, mac_Right.f a l = some r := by
  unfold mac_Right.f
  split
  · exact ⟨_, rfl⟩
  · split
    · exact ⟨_, rfl⟩
    · exact ⟨_, rfl⟩
theorem nd_nil : Nd [] := by unfold Nd; exact List.nodup_nil
theorem place_none (m : List S60) (key msg : List Int) (hl : m.length ≤ 1000) (h : ∀ (j : Nat) (hj : j < m.length), ¬ T1 m[j] ⟨key, msg⟩) : term_Place.f m key msg = some (-1) := by
  obtain ⟨r, hr, hp⟩ := place_f m key msg (by omega)
  rcases hp with ⟨rfl, _⟩ | ⟨n, hn, _, _, h2, _⟩
  · exact hr
  · exact absurd h2 (h n hn)
/-! MacSymbolic -/
/-- What fits in an engine by terms: the tag of the first place that has the key and the text. -/
theorem fits_at (k : Nat) (hk : 100 ≤ k) (l : List S60) (key msg t : List Int) (hn : Nd l) (ht : Bytes t) (hl : l.length ≤ 400) (hlk : key.length ≤ 3000) (hlm : msg.length ≤ 3000) (hlt : t.length ≤ 1000000) :
    ∃ v, mac_Fits.f k 2 l key msg t = some v ∧ (v = true → ∃ q, Fst l ⟨key, msg⟩ q ∧ p8 ((q : Int) + 1) = t) := by
  obtain ⟨r, hr, hp⟩ := place_f l key msg (by omega)
  rcases hp with ⟨rfl, _⟩ | ⟨n, hn2, rfl, _, h2, h3⟩
  · exact ⟨false, fits_none k l key msg t hn hr, fun h => by cases h⟩
  · have hF : Fst l ⟨key, msg⟩ n := ⟨hn2, h2, fun j hj hjn => h3 j hj (Nat.zero_le _) hjn⟩
    exact ⟨_, fits_sym k hk l key msg n hn hF (by omega) hlk hlm t ht hlt, fun h => ⟨n, hF, of_decide_eq_true h⟩⟩
theorem p8_same (a b : Nat) (ha : a ≤ 1000) (hb : b ≤ 1000) (h : p8 ((a : Int) + 1) = p8 ((b : Int) + 1)) : a = b := by
  have h1 := val_p8 ((a : Int) + 1) (by unfold U64; omega)
  have h2 := val_p8 ((b : Int) + 1) (by unfold U64; omega)
  rw [h, h2] at h1
  omega
theorem ms_l0 (l : List S60) (k1 m1 t : List Int) (hn : Nd l) (ht : Bytes t) (hl : l.length ≤ 400) (hlk : k1.length ≤ 3000) (hlm : m1.length ≤ 3000) (hlt : t.length ≤ 1000000) : ∀ (d k i : Nat) (made : Bool), i + d = l.length → 100 + d < k →
    (made = false → ∀ (j : Nat) (hj : j < l.length), j < i → ¬ T1 l[j] ⟨k1, m1⟩) → wristbandlaw06_MacSymbolic.l0 k l k1 m1 t made (i : Int) 2 l = some true := by
  intro d
  induction d with
  | zero =>
    intro k i made hi hk hm
    obtain ⟨k, rfl⟩ := ex_succ hk
    simp only [wristbandlaw06_MacSymbolic.l0]
    rw [if_neg (by omega)]
    cases made with
    | true => rw [if_pos rfl]
    | false =>
      rw [if_neg (by decide), fits_none k l k1 m1 t hn (place_none l k1 m1 (by omega) (fun j hj => hm rfl j hj (by omega)))]
      rfl
  | succ d ih =>
    intro k i made hi hk hm
    obtain ⟨k, rfl⟩ := ex_succ hk
    have hlt2 : i < l.length := by omega
    have hw : wrap64 ((i : Int) + 1) = ((i + 1 : Nat) : Int) := by rw [wrap64_id (by omega) (by omega)]; omega
    simp only [wristbandlaw06_MacSymbolic.l0]
    rw [if_pos (by omega), hw]
    have nxt : ¬ T1 l[i] ⟨k1, m1⟩ → made = false → ∀ (j : Nat) (hj : j < l.length), j < i + 1 → ¬ T1 l[j] ⟨k1, m1⟩ := by
      intro h1 h2 j hj hji
      rcases Nat.lt_or_ge j i with h | h
      · exact hm h2 j hj h
      · obtain rfl : j = i := by omega
        exact h1
    cases made with
    | true => rw [if_pos rfl]; exact ih k (i + 1) true (by omega) (by omega) (fun h => by cases h)
    | false =>
      rw [if_neg (by decide), if_pos (by omega), rd60 l i hlt2]
      by_cases e0 : (strOfNums l[i].f0).toList = (strOfNums k1).toList
      · rw [if_pos e0]
        refine ih k (i + 1) _ (by omega) (by omega) (fun h => nxt (fun hT => ?_) rfl)
        exact absurd hT.2 (by simpa using h)
      · rw [if_neg e0]
        exact ih k (i + 1) false (by omega) (by omega) (fun _ => nxt (fun hT => e0 hT.1) rfl)
theorem ms_fits_tot (k : Nat) (l : List S60) (k1 m1 t : List Int) (h : mac_Right.f 2 l = some false) : mac_Fits.f k 2 l k1 m1 t = some false := by
  unfold mac_Fits.f
  rw [h, Option.bind_some, if_neg (by decide)]
theorem ms_main (l : List S60) (k1 m1 k2 m2 t : List Int) (ht : Bytes t) (hl : l.length ≤ 400) (h1 : k1.length ≤ 3000) (h2 : m1.length ≤ 3000) (h3 : k2.length ≤ 3000) (h4 : m2.length ≤ 3000) (hlt : t.length ≤ 1000000) (k : Nat) (hk : 600 ≤ k) (b : Bool) :
    wristbandlaw06_MacSymbolic.j0 k l k1 m1 k2 m2 t b = some true := by
  obtain ⟨k, rfl⟩ : ∃ q, k = q + 1 + 1 + 1 := ⟨k - 3, by omega⟩
  rw [wristbandlaw06_MacSymbolic.j0]
  cases b with
  | true => rw [if_pos rfl]
  | false =>
    rw [if_neg (by decide)]
    obtain ⟨r, hr⟩ := right_tot 2 l
    rw [hr, Option.bind_some]
    cases r with
    | false => rw [if_neg (by decide), ms_fits_tot _ l k1 m1 t hr]; rfl
    | true =>
      rw [if_pos rfl]
      have hr2 := hr
      unfold mac_Right.f at hr2
      rw [if_neg (by decide), if_pos rfl] at hr2
      unfold term_Right.f at hr2
      have hN : Nd l := of_decide_eq_true (p := (l.map term_Right.key).Nodup) (Option.some.inj hr2)
      have end_ : wristbandlaw06_MacSymbolic.j2 (k + 1) l k1 m1 t false 2 l = some true := by
        rw [wristbandlaw06_MacSymbolic.j2, if_neg (by decide)]
        exact ms_l0 l k1 m1 t hN ht hl h1 h2 hlt l.length k 0 false (by omega) (by omega) (fun _ j hj h => absurd h (Nat.not_lt_zero j))
      have same : ∀ x : Bool, ((strOfNums k1).toList = (strOfNums k2).toList → (strOfNums m1).toList = (strOfNums m2).toList → x = true) → wristbandlaw06_MacSymbolic.j1 (k + 1 + 1) l k1 m1 k2 m2 t x 2 l = some true := by
        intro x hx
        rw [wristbandlaw06_MacSymbolic.j1]
        obtain ⟨v1, hv1, hw1⟩ := fits_at (k + 1) (by omega) l k1 m1 t hN ht hl h1 h2 hlt
        obtain ⟨v2, hv2, hw2⟩ := fits_at (k + 1) (by omega) l k2 m2 t hN ht hl h3 h4 hlt
        rw [hv1, Option.bind_some]
        cases v1 with
        | false => rw [if_neg (by decide)]; exact end_
        | true =>
          rw [if_pos rfl, hv2, Option.bind_some]
          cases v2 with
          | false => rw [if_neg (by decide)]; exact end_
          | true =>
            rw [if_pos rfl]
            obtain ⟨q1, f1, e1⟩ := hw1 rfl
            obtain ⟨q2, f2, e2⟩ := hw2 rfl
            have hq1 := f1.lt
            have hq2 := f2.lt
            obtain rfl := p8_same q1 q2 (by omega) (by omega) (e1.trans e2.symm)
            have hT := f1.at_.symm.trans f2.at_
            rw [hx hT.1 hT.2]
            exact end_
      by_cases e0 : (strOfNums k1).toList = (strOfNums k2).toList
      · rw [if_pos e0]
        exact same _ (fun _ h => by simpa using h)
      · rw [if_neg e0]
        exact same _ (fun h => absurd h e0)
theorem aw06 (k : Nat) (hk : 3000 ≤ k) : wristbandlaw06_awake.f k = some true := by
  obtain ⟨lg, q, hP, hF, hm, hnd, _⟩ := put_next [] [107] [109] (by simp) (by simp) (by simp) k (by omega)
  have hq := hF.lt
  obtain ⟨hlg, hq0⟩ : lg = [⟨[107], [109]⟩] ∧ q = 0 := by
    rcases hm with rfl | rfl
    · simp at hq
    · refine ⟨rfl, ?_⟩
      simp at hq
      exact hq
  subst hq0
  have hnd1 := hnd nd_nil
  have hb7 : Bytes [107] := by intro x hx; simp at hx; omega
  have hb9 : Bytes [109] := by intro x hx; simp at hx; omega
  have hb0 : Bytes [110] := by intro x hx; simp at hx; omega
  have f1 : mac_Fits.f k 2 lg [107] [109] (p8 (((0 : Nat) : Int) + 1)) = some true := by
    rw [fits_sym k (by omega) lg [107] [109] 0 hnd1 hF (by rw [hlg]; simp) (by simp) (by simp) _ (p8_bytes _) (by rw [p8_len]; omega), decide_eq_true rfl]
  have f2 : mac_Fits.f k 2 lg [107] [110] (p8 (((0 : Nat) : Int) + 1)) = some false := by
    refine fits_none k lg [107] [110] _ hnd1 (place_none lg _ _ (by rw [hlg]; simp) ?_)
    subst hlg
    intro j hj hT
    have hj0 : j = 0 := by simp at hj; exact hj
    subst hj0
    have := (str_inj [109] [110] hb9 hb0).1 hT.2
    exact absurd this (by decide)
  have f3 : mac_Fits.f k 2 [] [107] [109] [0, 0, 0, 0, 0, 0, 0, 1] = some false := fits_none k [] [107] [109] _ nd_nil (place_none [] _ _ (by simp) (fun j hj => absurd hj (Nat.not_lt_zero j)))
  have f4 : mac_Fits.f k 1 [] [107] [109] (tag1 [107] [109]) = some true := by
    rw [fits_con k (by omega) [107] [109] hb7 hb9 (by simp) (by simp) _ (tag1_bytes _ _) (by rw [tag1_len]; omega), decide_eq_true rfl]
  have n2 : mac_New.f 2 = some (2, [], 0) := by unfold mac_New.f; rw [right2 nd_nil]; rfl
  have n1 : mac_New.f 1 = some (1, [], 0) := by unfold mac_New.f; rw [right1]; rfl
  have n3 : mac_New.f 3 = some (0, [], 1) := by unfold mac_New.f mac_Right.f; rw [if_neg (by decide), if_neg (by decide)]; rfl
  unfold wristbandlaw06_awake.f
  rw [tag_sym k [] lg [107] [109] _ nd_nil hP, Option.bind_some, tag_con k (by omega) [107] [109] hb7 hb9 (by simp) (by simp), Option.bind_some, n2, Option.bind_some, n1, Option.bind_some, n3, Option.bind_some]
  refine if_pos ⟨⟨rfl, by rw [hlg]; rfl, p8_len _, rfl, rfl, tag1_len _ _, rfl, rfl, rfl, rfl, rfl, rfl, rfl, rfl, rfl, rfl, right2 hnd1⟩, f3, f1, f2, f4⟩
theorem MacSymbolic : wristbandlaw06_MacSymbolic.Pure := by
  intro l0 l1 l2 l3 l4 l5 hm0 hg0 hm1 hs1 hw1 hm2 hs2 hw2 hm3 hs3 hw3 hm4 hs4 hw4 hm5 hs5 hw5
  have hb5 := bytes_of hw5
  obtain ⟨sv, hsv, hsm⟩ := short_f l0 4000 (by omega)
  refine ⟨4000, ?_⟩
  unfold wristbandlaw06_MacSymbolic.f
  rw [aw06 4000 (by omega), Option.bind_some, if_pos rfl, hsv, Option.bind_some]
  have big : ∀ b : Bool, b = true → wristbandlaw06_MacSymbolic.j0 4000 l0 l1 l2 l3 l4 l5 b = some true := by
    rintro b rfl
    rw [show (4000 : Nat) = 3999 + 1 from rfl, wristbandlaw06_MacSymbolic.j0, if_pos rfl]
  cases sv with
  | false => rw [if_neg (by decide)]; exact big true rfl
  | true =>
    rw [if_pos rfl]
    have hS := hsm rfl
    by_cases d1 : (l1.length : Int) > 2000
    · rw [if_pos d1]; exact big true rfl
    rw [if_neg d1]
    by_cases d2 : (l2.length : Int) > 2000
    · rw [if_pos d2]; exact big true rfl
    rw [if_neg d2]
    by_cases d3 : (l3.length : Int) > 2000
    · rw [if_pos d3]; exact big true rfl
    rw [if_neg d3]
    by_cases d4 : (l4.length : Int) > 2000
    · rw [if_pos d4]; exact big true rfl
    rw [if_neg d4]
    by_cases d5 : (l5.length : Int) > 2000
    · exact big _ (decide_eq_true d5)
    · exact ms_main l0 l1 l2 l3 l4 l5 hb5 hS.1 (by omega) (by omega) (by omega) (by omega) (by omega) 4000 (by omega) _

end Go.Proofs.Ytnpkhkhlofkbhaa.Pure
