/- TermFound: for every input the law answers true: a term that was put is found by its tag, also behind others that are put; unlike texts have unlike tags; what is put again alters nothing; terms that are right stay so. No condition. -/
import Derived.Test.YtnpkhkhlofkbhaaPTermFoundx4
import Derived.OpenShut
set_option linter.unusedVariables false
set_option linter.unusedSimpArgs false
namespace Go.Proofs.Ytnpkhkhlofkbhaa.Pure
open Go.RowKit Go.Proofs.Ytnpkhkhlofkbhaa.PTermFound Go.Proofs.YtnpkhkhlofkbhaaW.PrintWords Go.Proofs.YtnpkhkhlofkbhaaW.PrintLast Go.Proofs.YtnpkhkhlofkbhaaW.PrintMore

theorem wrap64_id {n : Int} (h0 : -9223372036854775808 ≤ n) (h1 : n ≤ 9223372036854775807) : wrap64 n = n := by unfold wrap64; omega
theorem ex_succ {k n : Nat} (h : n < k) : ∃ m, k = m + 1 := ⟨k - 1, by omega⟩
def Bytes (l : List Int) : Prop := ∀ x ∈ l, 0 ≤ x ∧ x ≤ 255
theorem bytes_of {l : List Int} (h : ∀ x ∈ l, (Lit.int .u8 x).wf = true) : Bytes l := fun x hx => bounds_u8 (h x hx)
theorem rd_at {l : List Int} (i : Nat) (h : i < l.length) : rd l (i : Int) = l[i] := by
  unfold rd
  simp [List.getD_eq_getElem?_getD, List.getElem?_eq_getElem h]
theorem rd_bytes {l : List Int} (h : Bytes l) (i : Int) : 0 ≤ rd l i ∧ rd l i ≤ 255 := by
  unfold rd
  rw [List.getD_eq_getElem?_getD]
  rcases Nat.lt_or_ge i.toNat l.length with hl | hl
  · rw [List.getElem?_eq_getElem hl]; exact h _ (List.getElem_mem hl)
  · rw [List.getElem?_eq_none hl]; simp
theorem Bytes.take {l : List Int} (h : Bytes l) (n : Nat) : Bytes (l.take n) := fun x hx => h x (List.mem_of_mem_take hx)
theorem Bytes.drop {l : List Int} (h : Bytes l) (n : Nat) : Bytes (l.drop n) := fun x hx => h x (List.mem_of_mem_drop hx)
theorem Bytes.cons {a : Int} {l : List Int} (h : Bytes (a :: l)) : (0 ≤ a ∧ a ≤ 255) ∧ Bytes l := ⟨h a (by simp), fun x hx => h x (by simp [hx])⟩
theorem u64w (n : Int) : IntKind.u64.wrap n = n % 18446744073709551616 := by simp [IntKind.wrap, IntKind.bits, IntKind.signed]
theorem wraps_u64 (n : Int) (h₀ : 0 ≤ n) (h₁ : n < 2 ^ 64) : IntKind.u64.wrap n = n := by rw [u64w]; omega
theorem wraps_u32 (n : Int) (h₀ : 0 ≤ n) (h₁ : n < 2 ^ 32) : IntKind.u32.wrap n = n := by rw [IntKind.wrap_u32]; omega
theorem tmod_nn {a b : Int} (h : 0 ≤ a) : Int.tmod a b = a % b := Int.tmod_eq_emod_of_nonneg h
theorem tdiv_nn {a b : Int} (h : 0 ≤ a) : Int.tdiv a b = a / b := Int.tdiv_eq_ediv_of_nonneg h
def vs (v x : Int) : Int := (v * 256) % 18446744073709551616 + x
def val (l : List Int) : Int := l.foldl vs 0
theorem or_step (v x : Int) (h0 : 0 ≤ x) (h1 : x ≤ 255) : Go.bits .or .u64 (IntKind.u64.wrap (v * 256)) (IntKind.u64.wrap x) = vs v x := by
  rw [u64w, u64w, show x % 18446744073709551616 = x by omega]
  exact bits_join .u64 64 (by decide) wraps_u64 8 _ x (by omega) (by omega) (by omega) h0 (by omega) (by omega)
theorem vs_range (v x : Int) (h0 : 0 ≤ x) (h1 : x ≤ 255) : 0 ≤ vs v x ∧ vs v x < 18446744073709551616 := by unfold vs; omega
theorem foldl_range : ∀ (l : List Int) (v : Int), Bytes l → 0 ≤ v → v < 18446744073709551616 → 0 ≤ l.foldl vs v ∧ l.foldl vs v < 18446744073709551616
  | [], v, _, h0, h1 => ⟨h0, h1⟩
  | a :: l, v, hb, _, _ => by
    have h := vs_range v a hb.cons.1.1 hb.cons.1.2
    exact foldl_range l _ hb.cons.2 h.1 h.2
theorem val_range {l : List Int} (hb : Bytes l) : 0 ≤ val l ∧ val l < 18446744073709551616 := foldl_range l 0 hb (by omega) (by omega)
theorem value_l0 (l : List Int) (hb : Bytes l) (hl : l.length ≤ 9223372036854775806) : ∀ (d k : Nat) (v : Int) (i : Nat), i + d = l.length → d < k → word_value.l0 k v l (l.length : Int) (i : Int) = some ((l.drop i).foldl vs v) := by
  intro d
  induction d with
  | zero =>
    intro k v i hi hk
    obtain ⟨k, rfl⟩ := ex_succ hk
    simp only [word_value.l0]
    rw [if_neg (by omega), List.drop_eq_nil_of_le (by omega)]; rfl
  | succ d ih =>
    intro k v i hi hk
    obtain ⟨k, rfl⟩ := ex_succ hk
    have hlt : i < l.length := by omega
    simp only [word_value.l0]
    rw [if_pos (by omega), if_pos (by omega), if_pos (by omega), or_step _ _ (rd_bytes hb _).1 (rd_bytes hb _).2, wrap64_id (by omega) (by omega), show ((i : Int) + 1) = ((i + 1 : Nat) : Int) by omega, ih k _ (i + 1) (by omega) (by omega), rd_at i hlt, List.drop_eq_getElem_cons hlt]
    rfl
theorem value_f (l : List Int) (hb : Bytes l) (hl : l.length ≤ 9223372036854775806) (k : Nat) (hk : l.length < k) : word_value.f k l = some (val l) := by
  unfold word_value.f
  rw [show (0 : Int) = ((0 : Nat) : Int) from rfl, value_l0 l hb hl l.length k _ 0 (by omega) hk]; rfl
/-! strings of bytes -/
theorem toList_loop (b : ByteArray) : ∀ (d i : Nat) (r : List UInt8), i + d = b.size → ByteArray.toList.loop b i r = r.reverse ++ b.data.toList.drop i := by
  intro d
  induction d with
  | zero =>
    intro i r h
    rw [ByteArray.toList.loop, if_neg (by omega), List.drop_eq_nil_of_le (by rw [Array.length_toList]; show b.size ≤ i; omega), List.append_nil]
  | succ d ih =>
    intro i r h
    have hlt : i < b.size := by omega
    have hl : i < b.data.toList.length := by rw [Array.length_toList]; exact hlt
    have hg : b.get! i = b.data.toList[i] := by
      show b.data[i]! = _
      rw [getElem!_pos b.data i hlt, Array.getElem_toList]
    rw [ByteArray.toList.loop, if_pos hlt, ih (i + 1) _ (by omega), List.drop_eq_getElem_cons hl, hg]
    simp
theorem toList_data (b : ByteArray) : b.toList = b.data.toList := by
  unfold ByteArray.toList
  rw [toList_loop b b.size 0 [] (by omega)]
  simp
theorem str_toList (xs : List Int) : (strOfNums xs).toList = xs.map fun n => UInt8.ofNat n.toNat := by
  rw [toList_data]; simp [strOfNums]
theorem ofNat_inj (a b : Int) (ha : 0 ≤ a ∧ a ≤ 255) (hb : 0 ≤ b ∧ b ≤ 255) (h : UInt8.ofNat a.toNat = UInt8.ofNat b.toNat) : a = b := by
  have h2 := congrArg UInt8.toNat h
  simp only [UInt8.toNat_ofNat'] at h2
  omega
theorem map_inj : ∀ (xs ys : List Int), Bytes xs → Bytes ys → (xs.map fun n => UInt8.ofNat n.toNat) = (ys.map fun n => UInt8.ofNat n.toNat) → xs = ys
  | [], [], _, _, _ => rfl
  | [], _ :: _, _, _, h => by simp at h
  | _ :: _, [], _, _, h => by simp at h
  | x :: xs, y :: ys, hx, hy, h => by
    simp only [List.map_cons, List.cons.injEq] at h
    rw [ofNat_inj x y hx.cons.1 hy.cons.1 h.1, map_inj xs ys hx.cons.2 hy.cons.2 h.2]
theorem str_inj (xs ys : List Int) (hx : Bytes xs) (hy : Bytes ys) : (strOfNums xs).toList = (strOfNums ys).toList ↔ xs = ys := by
  rw [str_toList, str_toList]
  exact ⟨map_inj xs ys hx hy, fun h => by rw [h]⟩
theorem str_beq (xs ys : List Int) (hx : Bytes xs) (hy : Bytes ys) : ((strOfNums xs).toList == (strOfNums ys).toList) = decide (xs = ys) := by
  by_cases h : xs = ys
  · subst h; simp
  · rw [decide_eq_false h, beq_eq_false_iff_ne]
    exact fun h2 => h ((str_inj xs ys hx hy).1 h2)
theorem str_size (xs : List Int) : (strOfNums xs).size = xs.length := by
  show (strOfNums xs).data.size = _
  simp [strOfNums]
theorem str_append (xs ys : List Int) : strOfNums (xs ++ ys) = strOfNums xs ++ strOfNums ys := by
  apply ByteArray.ext
  simp [strOfNums]
theorem str_bt (xs : List Int) (hx : Bytes xs) (i : Nat) (h : i < xs.length) : bt (strOfNums xs) (i : Int) = xs[i] := by
  have hs : i < (strOfNums xs).size := by rw [str_size]; exact h
  have hr := hx xs[i] (List.getElem_mem h)
  unfold bt
  simp only [Int.toNat_natCast]
  rw [dif_pos hs, ByteArray.getElem_eq_getElem_data]
  simp only [strOfNums, List.getElem_toArray, List.getElem_map, UInt8.toNat_ofNat']
  omega
theorem str_extract (xs : List Int) (i : Nat) : (strOfNums xs).extract i (strOfNums xs).size = strOfNums (xs.drop i) := by
  apply ByteArray.ext
  rw [ByteArray.data_extract]
  show ((strOfNums xs).data.extract i (strOfNums xs).data.size) = _
  simp [strOfNums, List.map_drop]
  exact List.take_of_length_le (by simp)
def word4b (x : Int) : List Int := [(x / 16777216) % 256, (x / 65536) % 256, (x / 256) % 256, x % 256]
def bytesOf : List Int → List Int
  | [] => []
  | a :: t => word4b a ++ bytesOf t
theorem word4b_bytes (x : Int) : Bytes (word4b x) := by
  intro y hy
  simp only [word4b, List.mem_cons, List.not_mem_nil, or_false] at hy
  omega
theorem bytesOf_bytes : ∀ l : List Int, Bytes (bytesOf l)
  | [] => fun _ h => by simp [bytesOf] at h
  | a :: t => fun x h => by
    simp only [bytesOf, List.mem_append] at h
    rcases h with h | h
    · exact word4b_bytes a x h
    · exact bytesOf_bytes t x h
def Words (l : List Int) : Prop := ∀ x ∈ l, 0 ≤ x ∧ x < 4294967296
theorem rd_words {l : List Int} (h : Words l) (i : Nat) (hi : i < l.length) : 0 ≤ rd l (i : Int) ∧ rd l (i : Int) < 4294967296 := by
  rw [rd_at i hi]; exact h _ (List.getElem_mem hi)
theorem drop_rd (l : List Int) (i : Nat) (h : i < l.length) : l.drop i = rd l (i : Int) :: l.drop (i + 1) := by
  rw [rd_at i h, List.drop_eq_getElem_cons h]
theorem bytes_l0 (l : List Int) (hl : l.length ≤ 35184372087808) : ∀ (d k : Nat) (out : List Int) (i : Nat), i + d = l.length → d < k → out.length + 4 * d < 140737488355328 → word_Bytes.l0 k out l (l.length : Int) (i : Int) = some (out ++ bytesOf (l.drop i)) := by
  intro d
  induction d with
  | zero =>
    intro k out i hi hk ho
    obtain ⟨k, rfl⟩ := ex_succ hk
    simp only [word_Bytes.l0]
    rw [if_neg (by omega), List.drop_eq_nil_of_le (by omega)]; simp [bytesOf]
  | succ d ih =>
    intro k out i hi hk ho
    obtain ⟨k, rfl⟩ := ex_succ hk
    have hw1 : wrap64 ((i : Int) + 1) = ((i + 1 : Nat) : Int) := by rw [wrap64_id (by omega) (by omega)]; omega
    simp only [word_Bytes.l0, hw1, Option.bind_some]
    clear hw1
    rw [if_pos (by omega), if_pos (by omega), if_pos (by omega), if_pos (by simp only [List.length_cons, List.length_nil]; omega), ih k _ (i + 1) (by omega) (by omega) (by simp only [List.length_append, List.length_cons, List.length_nil]; omega), drop_rd l i (by omega)]
    simp [bytesOf, word4b]
theorem bytes_f (l : List Int) (hl : l.length ≤ 35184372087808) (k : Nat) (hk : l.length < k) : word_Bytes.f k l = some (bytesOf l) := by
  unfold word_Bytes.f
  rw [show (0 : Int) = ((0 : Nat) : Int) from rfl, bytes_l0 l hl l.length k [] 0 (by omega) hk (by simp only [List.length_nil]; omega)]; simp
def p8 (x : Int) : List Int := [x / 72057594037927936 % 256, x / 281474976710656 % 256, x / 1099511627776 % 256, x / 4294967296 % 256, x / 16777216 % 256, x / 65536 % 256, x / 256 % 256, x % 256]
def U64 (x : Int) : Prop := 0 ≤ x ∧ x < 18446744073709551616
theorem p8_bytes (x : Int) : Bytes (p8 x) := by
  intro y hy
  simp only [p8, List.mem_cons, List.not_mem_nil, or_false] at hy
  omega
theorem put_f (x : Int) (h : U64 x) (k : Nat) (hk : 2 < k) : word_Put.f k x = some (p8 x) := by
  unfold U64 at h
  unfold word_Put.f
  rw [bytes_f _ (by simp) k (by simpa using hk)]
  simp only [Option.bind_some, bytesOf, word4b, List.cons_append, List.nil_append, List.append_nil, p8]
  rw [show x / 4294967296 % 4294967296 / 16777216 % 256 = x / 72057594037927936 % 256 by omega, show x / 4294967296 % 4294967296 / 65536 % 256 = x / 281474976710656 % 256 by omega, show x / 4294967296 % 4294967296 / 256 % 256 = x / 1099511627776 % 256 by omega, show x / 4294967296 % 4294967296 % 256 = x / 4294967296 % 256 by omega, show x % 4294967296 / 16777216 % 256 = x / 16777216 % 256 by omega, show x % 4294967296 / 65536 % 256 = x / 65536 % 256 by omega, show x % 4294967296 / 256 % 256 = x / 256 % 256 by omega, show x % 4294967296 % 256 = x % 256 by omega]
theorem clone_f (l : List Int) (h : l.length < 140737488355328) : slices_Clone_byte_byte.f l = some l := by
  unfold slices_Clone_byte_byte.f
  rw [if_pos h]
theorem p8_len (x : Int) : (p8 x).length = 8 := rfl
theorem get_f (l : List Int) (hb : Bytes l) (hl : l.length ≤ 9223372036854775806) (k : Nat) (hk : l.length < k) : word_Get.f k l = some (if (l.length : Int) = 8 then (val l, 0) else (0, 1)) := by
  unfold word_Get.f
  by_cases h : (l.length : Int) = 8
  · rw [if_pos h, if_pos h, value_f l hb hl k hk]; rfl
  · rw [if_neg h, if_neg h]
theorem vsL (v x : Int) (h0 : 0 ≤ v) (h1 : v < 72057594037927936) (hx : 0 ≤ x ∧ x ≤ 255) : vs v x = v * 256 + x := by unfold vs; omega
theorem val8 (a b c d e f g h : Int) (ha : 0 ≤ a ∧ a ≤ 255) (hb : 0 ≤ b ∧ b ≤ 255) (hc : 0 ≤ c ∧ c ≤ 255) (hd : 0 ≤ d ∧ d ≤ 255) (he : 0 ≤ e ∧ e ≤ 255) (hf : 0 ≤ f ∧ f ≤ 255) (hg : 0 ≤ g ∧ g ≤ 255) (hh : 0 ≤ h ∧ h ≤ 255) : val [a, b, c, d, e, f, g, h] = ((((((((0 * 256 + a) * 256 + b) * 256 + c) * 256 + d) * 256 + e) * 256 + f) * 256 + g) * 256 + h) := by
  simp only [val, List.foldl]
  rw [vsL (0) a (by omega) (by omega) ha, vsL ((0 * 256 + a)) b (by omega) (by omega) hb, vsL (((0 * 256 + a) * 256 + b)) c (by omega) (by omega) hc, vsL ((((0 * 256 + a) * 256 + b) * 256 + c)) d (by omega) (by omega) hd, vsL (((((0 * 256 + a) * 256 + b) * 256 + c) * 256 + d)) e (by omega) (by omega) he, vsL ((((((0 * 256 + a) * 256 + b) * 256 + c) * 256 + d) * 256 + e)) f (by omega) (by omega) hf, vsL (((((((0 * 256 + a) * 256 + b) * 256 + c) * 256 + d) * 256 + e) * 256 + f)) g (by omega) (by omega) hg, vsL ((((((((0 * 256 + a) * 256 + b) * 256 + c) * 256 + d) * 256 + e) * 256 + f) * 256 + g)) h (by omega) (by omega) hh]
theorem val_p8 (x : Int) (h : U64 x) : val (p8 x) = x := by
  have hb := p8_bytes x
  unfold p8 at *
  have m : ∀ y : Int, 0 ≤ y % 256 ∧ y % 256 ≤ 255 := fun y => by omega
  rw [val8 _ _ _ _ _ _ _ _ (m _) (m _) (m _) (m _) (m _) (m _) (m _) (m _)]
  unfold U64 at h
  rw [show x / 65536 = x / 256 / 256 by omega, show x / 16777216 = x / 256 / 256 / 256 by omega, show x / 4294967296 = x / 256 / 256 / 256 / 256 by omega, show x / 1099511627776 = x / 256 / 256 / 256 / 256 / 256 by omega, show x / 281474976710656 = x / 256 / 256 / 256 / 256 / 256 / 256 by omega, show x / 72057594037927936 = x / 256 / 256 / 256 / 256 / 256 / 256 / 256 by omega]
  have s : ∀ y : Int, y = 256 * (y / 256) + y % 256 := fun y => by omega
  have t : x / 256 / 256 / 256 / 256 / 256 / 256 / 256 < 256 ∧ 0 ≤ x / 256 / 256 / 256 / 256 / 256 / 256 / 256 := by omega
  have s0 := s x
  have s1 := s (x / 256)
  have s2 := s (x / 256 / 256)
  have s3 := s (x / 256 / 256 / 256)
  have s4 := s (x / 256 / 256 / 256 / 256)
  have s5 := s (x / 256 / 256 / 256 / 256 / 256)
  have s6 := s (x / 256 / 256 / 256 / 256 / 256 / 256)
  have s7 : x / 256 / 256 / 256 / 256 / 256 / 256 / 256 % 256 = x / 256 / 256 / 256 / 256 / 256 / 256 / 256 := by omega
  rw [s7]
  clear s7 m s hb
  generalize x / 256 / 256 / 256 / 256 / 256 / 256 / 256 = y7 at *
  generalize x / 256 / 256 / 256 / 256 / 256 / 256 % 256 = r6 at *
  generalize x / 256 / 256 / 256 / 256 / 256 / 256 = y6 at *
  generalize x / 256 / 256 / 256 / 256 / 256 % 256 = r5 at *
  generalize x / 256 / 256 / 256 / 256 / 256 = y5 at *
  generalize x / 256 / 256 / 256 / 256 % 256 = r4 at *
  generalize x / 256 / 256 / 256 / 256 = y4 at *
  generalize x / 256 / 256 / 256 % 256 = r3 at *
  generalize x / 256 / 256 / 256 = y3 at *
  generalize x / 256 / 256 % 256 = r2 at *
  generalize x / 256 / 256 = y2 at *
  generalize x / 256 % 256 = r1 at *
  generalize x / 256 = y1 at *
  generalize x % 256 = r0 at *
  omega
theorem p8_val : ∀ l : List Int, Bytes l → l.length = 8 → p8 (val l) = l
  | [a, b, c, d, e, f, g, h], hb, _ => by
    have ha := hb a (by simp)
    have hbb := hb b (by simp)
    have hc := hb c (by simp)
    have hd := hb d (by simp)
    have he := hb e (by simp)
    have hf := hb f (by simp)
    have hg := hb g (by simp)
    have hh := hb h (by simp)
    rw [val8 _ _ _ _ _ _ _ _ ha hbb hc hd he hf hg hh]
    clear hb
    unfold p8
    congr 1
    · omega
    congr 1
    · omega
    congr 1
    · omega
    congr 1
    · omega
    congr 1
    · omega
    congr 1
    · omega
    congr 1
    · omega
    congr 1
    omega
  | [], _, h => by simp at h
  | [_], _, h => by simp at h
  | [_, _], _, h => by simp at h
  | [_, _, _], _, h => by simp at h
  | [_, _, _, _], _, h => by simp at h
  | [_, _, _, _, _], _, h => by simp at h
  | [_, _, _, _, _, _], _, h => by simp at h
  | [_, _, _, _, _, _, _], _, h => by simp at h
  | _ :: _ :: _ :: _ :: _ :: _ :: _ :: _ :: _ :: _, _, h => by simp at h
/-! terms -/
def T1 (x y : S60) : Prop := (strOfNums x.f0).toList = (strOfNums y.f0).toList ∧ (strOfNums x.f1).toList = (strOfNums y.f1).toList
theorem rd60 (l : List S60) (i : Nat) (h : i < l.length) : rd_T60 l (i : Int) = l[i] := by
  unfold rd_T60; simp [List.getD_eq_getElem?_getD, List.getElem?_eq_getElem h]
/-- The place of the first term from i on that is (a, b); -1: there is none. -/
def PlaceAt (l : List S60) (x : S60) (i : Nat) (r : Int) : Prop :=
  (r = -1 ∧ ∀ (j : Nat) (h : j < l.length), i ≤ j → ¬ T1 l[j] x) ∨ (∃ (n : Nat) (h : n < l.length), r = (n : Int) ∧ i ≤ n ∧ T1 l[n] x ∧ ∀ (j : Nat) (h : j < l.length), i ≤ j → j < n → ¬ T1 l[j] x)
theorem PlaceAt.unique {l : List S60} {x : S60} {i : Nat} {r s : Int} (h : PlaceAt l x i r) (k : PlaceAt l x i s) : r = s := by
  rcases h with ⟨rfl, h⟩ | ⟨n, hn, rfl, h1, h2, h3⟩
  · rcases k with ⟨rfl, _⟩ | ⟨m, hm, rfl, k1, k2, _⟩
    · rfl
    · exact absurd k2 (h m hm k1)
  · rcases k with ⟨rfl, k⟩ | ⟨m, hm, rfl, k1, k2, k3⟩
    · exact absurd h2 (k n hn h1)
    · rcases Nat.lt_trichotomy n m with hlt | heq | hgt
      · exact absurd h2 (k3 n hn h1 hlt)
      · rw [heq]
      · exact absurd k2 (h3 m hm k1 hgt)
theorem place_l0 (l : List S60) (a b : List Int) (hl : l.length ≤ 9223372036854775806) : ∀ (d k i : Nat), i + d = l.length → d < k → ∃ r, term_Place.l0 k l a b (i : Int) = some r ∧ PlaceAt l ⟨a, b⟩ i r := by
  intro d
  induction d with
  | zero =>
    intro k i hi hk
    obtain ⟨k, rfl⟩ := ex_succ hk
    exact ⟨-1, by simp only [term_Place.l0]; rw [if_neg (by omega)], .inl ⟨rfl, fun j h hj => by omega⟩⟩
  | succ d ih =>
    intro k i hi hk
    obtain ⟨k, rfl⟩ := ex_succ hk
    have hlt : i < l.length := by omega
    obtain ⟨r, hr, hp⟩ := ih k (i + 1) (by omega) (by omega)
    have hw : wrap64 ((i : Int) + 1) = ((i + 1 : Nat) : Int) := by rw [wrap64_id (by omega) (by omega)]; omega
    have next : ¬ T1 l[i] ⟨a, b⟩ → PlaceAt l ⟨a, b⟩ i r := by
      intro hne
      rcases hp with ⟨rfl, hp⟩ | ⟨n, hn, rfl, h1, h2, h3⟩
      · refine .inl ⟨rfl, fun j h hj => ?_⟩
        rcases Nat.eq_or_lt_of_le hj with rfl | hj
        · exact hne
        · exact hp j h hj
      · refine .inr ⟨n, hn, rfl, by omega, h2, fun j h hj hjn => ?_⟩
        rcases Nat.eq_or_lt_of_le hj with rfl | hj
        · exact hne
        · exact h3 j h hj hjn
    simp only [term_Place.l0]
    rw [if_pos (by omega), if_pos (by omega), rd60 l i hlt, hw]
    by_cases e0 : (strOfNums l[i].f0).toList = (strOfNums a).toList
    · rw [if_pos e0]
      by_cases e1 : (strOfNums l[i].f1).toList = (strOfNums b).toList
      · rw [if_pos e1]; exact ⟨_, rfl, .inr ⟨i, hlt, rfl, Nat.le_refl _, ⟨e0, e1⟩, fun j h h1 h2 => by omega⟩⟩
      · rw [if_neg e1]; exact ⟨r, hr, next (fun h => e1 h.2)⟩
    · rw [if_neg e0]; exact ⟨r, hr, next (fun h => e0 h.1)⟩
theorem place_f (l : List S60) (a b : List Int) (hl : l.length ≤ 9223372036854775806) : ∃ r, term_Place.f l a b = some r ∧ PlaceAt l ⟨a, b⟩ 0 r := by
  unfold term_Place.f
  exact place_l0 l a b hl l.length _ 0 (by omega) (by omega)
theorem T1.symm {x y : S60} (h : T1 x y) : T1 y x := ⟨h.1.symm, h.2.symm⟩
theorem T1.trans {x y z : S60} (h : T1 x y) (k : T1 y z) : T1 x z := ⟨h.1.trans k.1, h.2.trans k.2⟩
theorem key_eq (x y : S60) : term_Right.key x = term_Right.key y ↔ T1 x y := by
  unfold term_Right.key T1
  simp only [toList_data, Prod.mk.injEq]
theorem nodup_iff (l : List S60) : (l.map term_Right.key).Nodup ↔ ∀ (i j : Nat) (hi : i < l.length) (hj : j < l.length), i < j → ¬ T1 l[i] l[j] := by
  rw [List.nodup_iff_pairwise_ne, List.pairwise_map, List.pairwise_iff_getElem]
  exact ⟨fun h i j hi hj hlt hT => h i j hi hj hlt ((key_eq _ _).2 hT), fun h i j hi hj hlt he => h i j hi hj hlt ((key_eq _ _).1 he)⟩
/-- Terms that aren't too much. -/
def Small (l : List S60) : Prop := l.length ≤ 400 ∧ ∀ x ∈ l, x.f0.length ≤ 3000 ∧ x.f1.length ≤ 3000
theorem own_f (a b : List Int) (ha : a.length < 140737488355328) (hb : b.length < 140737488355328) : term_own.f a b = some (a, b) := by
  unfold term_own.f
  rw [clone_f a ha, clone_f b hb]; rfl
theorem cloneT_f (l : List S60) (h : l.length < 2932031007402) : api_Term_91.f l = some l := by
  unfold api_Term_91.f; rw [if_pos h]
theorem put_terms (l : List S60) (a b : List Int) (hl : l.length < 2932031007402) (ha : a.length < 140737488355328) (hb : b.length < 140737488355328) (k : Nat) (hk : 2 < k) :
    ∃ r, term_Place.f l a b = some r ∧ PlaceAt l ⟨a, b⟩ 0 r ∧ term_Put.f k l a b = some (if r = -1 then (l ++ [⟨a, b⟩], p8 ((l.length : Int) + 1)) else (l, p8 (r + 1))) := by
  obtain ⟨r, hr, hp⟩ := place_f l a b (by omega)
  refine ⟨r, hr, hp, ?_⟩
  unfold term_Put.f
  rw [hr]
  simp only [Option.bind_some]
  by_cases e : r = -1
  · rw [if_pos e, if_pos e, cloneT_f l hl, own_f a b ha hb]
    simp only [Option.bind_some]
    rw [if_pos hl, u64w, u64w, show ((l.length : Int) % 18446744073709551616 + 1) % 18446744073709551616 = (l.length : Int) + 1 by omega, put_f _ (by unfold U64; omega) k hk]
    rfl
  · rw [if_neg e, if_neg e]
    have hr0 : 0 ≤ r ∧ r < (l.length : Int) := by
      rcases hp with ⟨h, _⟩ | ⟨n, hn, rfl, _⟩
      · exact absurd h e
      · omega
    rw [u64w, u64w, show (r % 18446744073709551616 + 1) % 18446744073709551616 = r + 1 by omega, put_f _ (by unfold U64; omega) k hk]
    rfl
/-- The term of a tag. -/
def ofAt (l : List S60) (tag : List Int) : List Int × List Int × Int :=
  if tag.length = 8 then (if val tag = 0 then ([], [], 7) else if val tag > (l.length : Int) then ([], [], 7) else ((rd_T60 l (val tag - 1)).f0, (rd_T60 l (val tag - 1)).f1, 0)) else ([], [], 1)
theorem of_f (l : List S60) (tag : List Int) (hl : l.length ≤ 1000000) (hx : ∀ x ∈ l, x.f0.length ≤ 3000 ∧ x.f1.length ≤ 3000) (hb : Bytes tag) (ht : tag.length ≤ 9223372036854775806) (k : Nat) (hk : tag.length < k) : term_Of.f k l tag = some (ofAt l tag) := by
  unfold term_Of.f ofAt
  rw [get_f tag hb ht k hk]
  simp only [Option.bind_some]
  have hv := val_range hb
  by_cases h8 : tag.length = 8
  · rw [if_pos (show (tag.length : Int) = 8 by omega), if_pos h8]
    dsimp only
    rw [if_pos rfl]
    by_cases h0 : val tag = 0
    · rw [if_pos h0, if_pos h0]
    · rw [if_neg h0, if_neg h0, u64w, show (l.length : Int) % 18446744073709551616 = l.length by omega]
      by_cases h1 : val tag > (l.length : Int)
      · rw [if_pos h1, if_pos h1]
      · rw [if_neg h1, if_neg h1, u64w, show (val tag - 1) % 18446744073709551616 = val tag - 1 by omega, if_pos (by omega), if_pos (by omega)]
        obtain ⟨n, hn⟩ : ∃ n : Nat, val tag - 1 = (n : Int) := ⟨(val tag - 1).toNat, by omega⟩
        have hn' : n < l.length := by omega
        rw [hn, rd60 l n hn']
        have := hx _ (List.getElem_mem hn')
        rw [own_f _ _ (by omega) (by omega)]
        rfl
  · rw [if_neg (show ¬ (tag.length : Int) = 8 by omega), if_neg h8]
    dsimp only
    rw [if_neg (by omega)]
theorem short_step (k : Nat) (l : List S60) (i : Nat) (hi : i < l.length) (h4 : i < 400) : wristbandref05_Short.l0 (k + 1 + 1) l (i : Int) = if l[i].f0.length > 3000 then some false else if l[i].f1.length > 3000 then some false else wristbandref05_Short.l0 k l ((i + 1 : Nat) : Int) := by
  have hw : wrap64 ((i : Int) + 1) = ((i + 1 : Nat) : Int) := by rw [wrap64_id (by omega) (by omega)]; omega
  rw [wristbandref05_Short.l0, if_pos (by omega), decide_eq_true (show (i : Int) < 400 by omega), wristbandref05_Short.j1, if_pos rfl, if_pos (by omega), if_pos (by omega), rd60 l i hi, hw]
  by_cases e0 : l[i].f0.length > 3000
  · rw [if_pos e0, if_pos (by omega)]
  · rw [if_neg e0, if_neg (by omega)]
    by_cases e1 : l[i].f1.length > 3000
    · rw [if_pos e1, if_pos (by omega)]
    · rw [if_neg e1, if_neg (by omega)]
theorem short_end (k : Nat) (l : List S60) (i : Nat) (h : l.length ≤ i ∨ 400 ≤ i) : wristbandref05_Short.l0 (k + 1 + 1) l (i : Int) = some (decide ((l.length : Int) ≤ 400)) := by
  rw [wristbandref05_Short.l0]
  by_cases e : (i : Int) < (l.length : Int)
  · rw [if_pos e, decide_eq_false (show ¬ (i : Int) < 400 by omega), wristbandref05_Short.j1, if_neg (by decide)]
  · rw [if_neg e, wristbandref05_Short.j1, if_neg (by decide)]
theorem short_l0 (l : List S60) : ∀ (d k i : Nat), i + d = min l.length 400 → 2 * d + 2 ≤ k → ∃ t, wristbandref05_Short.l0 k l (i : Int) = some t ∧ (t = true → l.length ≤ 400 ∧ ∀ (j : Nat) (h : j < l.length), i ≤ j → l[j].f0.length ≤ 3000 ∧ l[j].f1.length ≤ 3000) := by
  intro d
  induction d with
  | zero =>
    intro k i hi hk
    obtain ⟨k, rfl⟩ : ∃ m, k = m + 1 + 1 := ⟨k - 2, by omega⟩
    exact ⟨_, short_end k l i (by omega), fun h => ⟨by have := of_decide_eq_true h; omega, fun j hj hij => by have := of_decide_eq_true h; omega⟩⟩
  | succ d ih =>
    intro k i hi hk
    obtain ⟨k, rfl⟩ : ∃ m, k = m + 1 + 1 := ⟨k - 2, by omega⟩
    have hlt : i < l.length := by omega
    rw [short_step k l i hlt (by omega)]
    by_cases e0 : l[i].f0.length > 3000
    · rw [if_pos e0]; exact ⟨_, rfl, fun h => by cases h⟩
    · rw [if_neg e0]
      by_cases e1 : l[i].f1.length > 3000
      · rw [if_pos e1]; exact ⟨_, rfl, fun h => by cases h⟩
      · rw [if_neg e1]
        obtain ⟨t, ht, hh⟩ := ih k (i + 1) (by omega) (by omega)
        refine ⟨t, ht, fun h => ⟨(hh h).1, fun j hj hij => ?_⟩⟩
        rcases Nat.eq_or_lt_of_le hij with rfl | hij
        · exact ⟨by omega, by omega⟩
        · exact (hh h).2 j hj hij
theorem short_f (l : List S60) (k : Nat) (hk : 802 ≤ k) : ∃ t, wristbandref05_Short.f k l = some t ∧ (t = true → Small l) := by
  obtain ⟨t, ht, hh⟩ := short_l0 l (min l.length 400) k 0 (by omega) (by omega)
  refine ⟨t, ht, fun h => ⟨(hh h).1, fun x hx => ?_⟩⟩
  obtain ⟨j, hj, rfl⟩ := List.getElem_of_mem hx
  exact (hh h).2 j hj (Nat.zero_le _)
theorem awake5 : wristbandlaw05_awake.f 200 = some true := by
  unfold wristbandlaw05_awake.f
  simp only [toList_data]
  decide +kernel
theorem awake5_at (k : Nat) (hk : 200 ≤ k) : wristbandlaw05_awake.f k = some true := at_rounds wristbandlaw05_awake.mono hk awake5
theorem sameT_l0 (l : List S60) (hl : l.length ≤ 9223372036854775806) : ∀ (d k i : Nat), i + d = l.length → d < k → wristbandref05_Same.l0 k l l (i : Int) = some true := by
  intro d
  induction d with
  | zero =>
    intro k i hi hk
    obtain ⟨k, rfl⟩ := ex_succ hk
    simp only [wristbandref05_Same.l0]; rw [if_neg (by omega)]
  | succ d ih =>
    intro k i hi hk
    obtain ⟨k, rfl⟩ := ex_succ hk
    simp only [wristbandref05_Same.l0]
    rw [if_pos (by omega), if_pos (by omega), if_pos (by omega), wrap64_id (by omega) (by omega), show ((i : Int) + 1) = ((i + 1 : Nat) : Int) by omega]
    rw [ih k (i + 1) (by omega) (by omega)]
    simp
theorem sameT_f (l : List S60) (hl : l.length ≤ 9223372036854775806) (k : Nat) (hk : l.length < k) : wristbandref05_Same.f k l l = some true := by
  unfold wristbandref05_Same.f
  rw [if_pos rfl]
  exact sameT_l0 l hl l.length k 0 (by omega) hk
/-- The first term that is x lies at n. -/
structure Fst (m : List S60) (x : S60) (n : Nat) : Prop where
  lt : n < m.length
  at_ : T1 (m[n]'lt) x
  first : ∀ (j : Nat) (h : j < m.length), j < n → ¬ T1 m[j] x
theorem Fst.place {m : List S60} {x : S60} {n : Nat} (h : Fst m x n) : PlaceAt m x 0 (n : Int) := .inr ⟨n, h.lt, rfl, Nat.zero_le _, h.at_, fun j hj _ hjn => h.first j hj hjn⟩
theorem Fst.unique {m : List S60} {x : S60} {n q : Nat} (h : Fst m x n) (k : Fst m x q) : n = q := by
  have := h.place.unique k.place
  omega
theorem Fst.append {m : List S60} {x : S60} {n : Nat} (h : Fst m x n) (y : S60) : Fst (m ++ [y]) x n where
  lt := by have := h.lt; simp; omega
  at_ := by have := h.lt; rw [List.getElem_append_left this]; exact h.at_
  first := fun j hj hjn => by have := h.lt; rw [List.getElem_append_left (by omega)]; exact h.first j (by omega) hjn
theorem Fst.other {m : List S60} {x y : S60} {n : Nat} (h : Fst m x n) (e : T1 x y) : Fst m y n where
  lt := h.lt
  at_ := h.at_.trans e
  first := fun j hj hjn hT => h.first j hj hjn (hT.trans e.symm)
def InB (m : List S60) : Prop := ∀ x ∈ m, x.f0.length ≤ 3000 ∧ x.f1.length ≤ 3000
def Nd (m : List S60) : Prop := (m.map term_Right.key).Nodup
theorem put_next (l : List S60) (a b : List Int) (hl : l.length ≤ 1000000) (ha : a.length ≤ 3000) (hb : b.length ≤ 3000) (k : Nat) (hk : 2 < k) :
    ∃ (m : List S60) (q : Nat), term_Put.f k l a b = some (m, p8 ((q : Int) + 1)) ∧ Fst m ⟨a, b⟩ q ∧ (m = l ∨ m = l ++ [⟨a, b⟩]) ∧ (Nd l → Nd m) ∧ (InB l → InB m) := by
  obtain ⟨r, hr, hp, hput⟩ := put_terms l a b (by omega) (by omega) (by omega) k hk
  rw [hput]
  rcases hp with ⟨rfl, hn⟩ | ⟨n, hn, rfl, _, h2, h3⟩
  · rw [if_pos rfl]
    refine ⟨_, l.length, rfl, ⟨by simp, by simp only [List.getElem_append_right (Nat.le_refl _), Nat.sub_self, List.getElem_cons_zero]; exact ⟨rfl, rfl⟩, fun j hj hjn => by rw [List.getElem_append_left hjn]; exact hn j hjn (Nat.zero_le _)⟩, .inr rfl, fun h => ?_, fun h x hx => ?_⟩
    · unfold Nd at *
      rw [List.map_append]
      refine List.nodup_append.2 ⟨h, by simp, fun p hp q hq e => ?_⟩
      simp only [List.map_cons, List.map_nil, List.mem_singleton] at hq
      subst hq
      obtain ⟨z, hz, rfl⟩ := List.mem_map.1 hp
      obtain ⟨j, hj, rfl⟩ := List.getElem_of_mem hz
      exact hn j hj (Nat.zero_le _) ((key_eq _ _).1 e)
    · rcases List.mem_append.1 hx with hx | hx
      · exact h x hx
      · obtain rfl := List.mem_singleton.1 hx; exact ⟨ha, hb⟩
  · rw [if_neg (by omega)]
    exact ⟨_, n, rfl, ⟨hn, h2, fun j hj hjn => h3 j hj (Nat.zero_le _) hjn⟩, .inl rfl, id, id⟩
theorem of_fst (m : List S60) (x : S60) (n : Nat) (h : Fst m x n) (hl : m.length ≤ 1000000) (hx : InB m) (k : Nat) (hk : 8 < k) :
    ∃ u v : List Int, term_Of.f k m (p8 ((n : Int) + 1)) = some (u, v, 0) ∧ (strOfNums u).toList = (strOfNums x.f0).toList ∧ (strOfNums v).toList = (strOfNums x.f1).toList := by
  have hn := h.lt
  refine ⟨m[n].f0, m[n].f1, ?_, h.at_.1, h.at_.2⟩
  rw [of_f m _ hl hx (p8_bytes _) (by rw [p8_len]; omega) k (by rw [p8_len]; exact hk)]
  unfold ofAt
  have hv : val (p8 ((n : Int) + 1)) = (n : Int) + 1 := val_p8 _ (by unfold U64; omega)
  rw [if_pos (p8_len _), hv, if_neg (by omega), if_neg (by omega), show (n : Int) + 1 - 1 = (n : Int) by omega, rd60 m n hn]
theorem p8_eq (n q : Nat) (hn : n ≤ 1000000) (hq : q ≤ 1000000) : ((strOfNums (p8 ((n : Int) + 1))).toList == (strOfNums (p8 ((q : Int) + 1))).toList) = decide (n = q) := by
  rw [str_beq _ _ (p8_bytes _) (p8_bytes _)]
  have h1 : val (p8 ((n : Int) + 1)) = (n : Int) + 1 := val_p8 _ (by unfold U64; omega)
  have h2 : val (p8 ((q : Int) + 1)) = (q : Int) + 1 := val_p8 _ (by unfold U64; omega)
  by_cases e : n = q
  · subst e; simp
  · rw [decide_eq_false e, decide_eq_false (fun h => e (by rw [h] at h1; omega))]
theorem right_nd {m : List S60} (h : Nd m) : term_Right.f m = some true := by
  unfold term_Right.f; rw [decide_eq_true (show (m.map term_Right.key).Nodup from h)]
theorem rdL2 (l : List (List Int)) (i : Nat) (h : i < l.length) : rd_L2 l (i : Int) = l[i] := by
  unfold rd_L2; simp [List.getD_eq_getElem?_getD, List.getElem?_eq_getElem h]
theorem found_l0 (key msg : List Int) (more : List (List Int)) (was : Bool) (n0 : Nat) (hkey : key.length ≤ 3000) (hmsg : msg.length ≤ 3000) (hm : more.length ≤ 20) : ∀ (d k i : Nat) (m : List S60), i + d = more.length → d + 2000 < k → m.length ≤ 401 + i → InB m → Fst m ⟨key, msg⟩ n0 → (was = true → Nd m) →
    wristbandlaw05_TermFound.l0 k key msg more was (p8 ((n0 : Int) + 1)) m (i : Int) = some true := by
  intro d
  induction d with
  | zero =>
    intro k i m hi hk hl hx hF hN
    obtain ⟨k, rfl⟩ := ex_succ (show 0 < k by omega)
    have hlt := hF.lt
    obtain ⟨u, v, ho, hu, hv⟩ := of_fst m _ n0 hF (by omega) hx k (by omega)
    obtain ⟨o, q, hp, hq, hmo, hnd, hin⟩ := put_next m key msg (by omega) hkey hmsg k (by omega)
    have ho' : o = m ∧ q = n0 := by
      rcases hmo with rfl | rfl
      · exact ⟨rfl, hq.unique hF⟩
      · have h1 := hq.unique (hF.append _)
        subst h1
        exfalso
        obtain ⟨r, hr, hpr, hput⟩ := put_terms m key msg (by omega) (by omega) (by omega) k (by omega)
        have h2 := hF.place.unique hpr
        rw [hput, ← h2, if_neg (by omega)] at hp
        have h3 := congrArg (fun p => p.1.length) (Option.some.inj hp)
        simp at h3
    obtain ⟨rfl, rfl⟩ := ho'
    rw [wristbandlaw05_TermFound.l0, if_neg (by omega), ho, hp]
    simp only [Option.bind_some]
    rw [if_pos trivial, if_pos hu, if_pos hv, if_pos trivial, sameT_f _ (by omega) k (by omega)]
    simp only [Option.bind_some, if_true]
    cases was with
    | false => rfl
    | true => rw [if_pos rfl, right_nd (hN rfl)]; rfl
  | succ d ih =>
    intro k i m hi hk hl hx hF hN
    obtain ⟨k, rfl⟩ := ex_succ (show 0 < k by omega)
    have hlt : i < more.length := by omega
    have hw : wrap64 ((i : Int) + 1) = ((i + 1 : Nat) : Int) := by rw [wrap64_id (by omega) (by omega)]; omega
    rw [wristbandlaw05_TermFound.l0, if_pos (by omega), if_pos (by omega), rdL2 more i hlt]
    by_cases c : (more[i].length : Int) > 3000
    · rw [if_pos c]
    · rw [if_neg c]
      obtain ⟨o, q, hp, hq, hmo, hnd, hin⟩ := put_next m key more[i] (by omega) hkey (by omega) k (by omega)
      have hF' : Fst o ⟨key, msg⟩ n0 := by
        rcases hmo with rfl | rfl
        · exact hF
        · exact hF.append _
      have hol : o.length ≤ m.length + 1 := by
        rcases hmo with rfl | rfl <;> simp
      have ho0 := hF'.lt
      have ho1 := hq.lt
      have heq : ((strOfNums (p8 ((n0 : Int) + 1))).toList == (strOfNums (p8 ((q : Int) + 1))).toList) = ((strOfNums more[i]).toList == (strOfNums msg).toList) := by
        rw [p8_eq n0 q (by omega) (by omega)]
        by_cases e : (strOfNums more[i]).toList = (strOfNums msg).toList
        · have h1 := (hq.other (y := ⟨key, msg⟩) ⟨rfl, e⟩).unique hF'
          rw [decide_eq_true h1.symm, beq_iff_eq.2 e]
        · have h1 : n0 ≠ q := by
            intro h
            subst h
            exact e ((hq.at_.symm.trans hF'.at_).2)
          rw [decide_eq_false h1, beq_eq_false_iff_ne.2 e]
      rw [hp]
      simp only [Option.bind_some]
      rw [heq, bne_self_eq_false, if_neg (by decide), hw]
      exact ih k (i + 1) o (by omega) (by omega) (by omega) (hin hx) hF' (fun h => hnd (hN h))
theorem TermFound_j0 (l : List S60) (key msg : List Int) (more : List (List Int)) (hs : Small l) (ha : key.length ≤ 3000) (hb : msg.length ≤ 3000) (hm : more.length ≤ 20) (k : Nat) (hk : 4000 ≤ k) : wristbandlaw05_TermFound.j0 (k + 1 + 1) l key msg more false = some true := by
  have hl := hs.1
  obtain ⟨m, q, hp, hq, hmo, hnd, hin⟩ := put_next l key msg (by omega) ha hb (k + 1) (by omega)
  have hml : m.length ≤ 401 ∧ l.length ≤ m.length ∧ m.take l.length = l := by
    rcases hmo with rfl | rfl
    · exact ⟨by omega, Nat.le_refl _, List.take_length⟩
    · exact ⟨by simp; omega, by simp, by simp⟩
  obtain ⟨u, v, ho, hu, hv⟩ := of_fst m _ q hq (by omega) (hin hs.2) (k + 1) (by omega)
  obtain ⟨t, ht, htn⟩ : ∃ t, term_Right.f l = some t ∧ (t = true → Nd l) := ⟨_, rfl, fun h => show (l.map term_Right.key).Nodup from of_decide_eq_true h⟩
  have fin : wristbandlaw05_TermFound.j1 (k + 1) key msg more t m (p8 ((q : Int) + 1)) false = some true := by
    rw [wristbandlaw05_TermFound.j1, if_neg (by decide), show (0 : Int) = ((0 : Nat) : Int) from rfl]
    exact found_l0 key msg more t q ha hb hm more.length k 0 m (by omega) (by omega) (by omega) (hin hs.2) hq (fun h => hnd (htn h))
  have same : wristbandref05_Same.f (k + 1) (m.take ((l.length : Int) : Int).toNat) l = some true := by
    rw [Int.toNat_natCast, hml.2.2]; exact sameT_f l (by omega) (k + 1) (by omega)
  rw [wristbandlaw05_TermFound.j0, if_neg (by decide), ht, hp]
  simp only [Option.bind_some]
  rw [ho]
  simp only [Option.bind_some]
  rw [if_pos trivial, if_pos hu, if_pos hv]
  cases t with
  | true =>
    rw [if_pos rfl, right_nd (hnd (htn rfl))]
    simp only [Option.bind_some, if_true]
    rw [if_neg (by omega), if_pos (by omega), if_pos (by omega), same]
    simp only [Option.bind_some, Bool.not_true]
    exact fin
  | false =>
    rw [if_neg (by decide), if_neg (by omega), if_pos (by omega), if_pos (by omega), same]
    simp only [Option.bind_some, Bool.not_true]
    exact fin
theorem TermFound : wristbandlaw05_TermFound.Pure := by
  intro l a b more _ _ _ _ _ _ _ _ _ _
  obtain ⟨t, ht, hh⟩ := short_f l 5000 (by omega)
  refine ⟨5000, ?_⟩
  unfold wristbandlaw05_TermFound.f
  rw [awake5_at _ (by omega), ht]
  simp only [Option.bind_some, if_true]
  have out : wristbandlaw05_TermFound.j0 5000 l a b more true = some true := by rw [wristbandlaw05_TermFound.j0, if_pos rfl]
  cases t with
  | false => rw [if_neg (by decide)]; exact out
  | true =>
    rw [if_pos rfl]
    have hs := hh rfl
    by_cases c1 : (a.length : Int) > 3000
    · rw [if_pos c1]; exact out
    · rw [if_neg c1]
      by_cases c2 : (b.length : Int) > 3000
      · rw [if_pos c2]; exact out
      · rw [if_neg c2]
        by_cases c3 : (more.length : Int) > 20
        · rw [decide_eq_true c3]; exact out
        · rw [decide_eq_false c3]
          exact TermFound_j0 l a b more hs (by omega) (by omega) (by omega) 4998 (by omega)

end Go.Proofs.Ytnpkhkhlofkbhaa.Pure
