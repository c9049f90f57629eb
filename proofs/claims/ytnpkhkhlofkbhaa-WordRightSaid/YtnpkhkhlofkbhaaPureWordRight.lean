/- WordRight: for every input the law answers true: turning a word, reading words and bytes, one number of eight bytes, the least bytes and back answer as the other hand does. No condition. -/
import Derived.Test.YtnpkhkhlofkbhaaPWordRightx5
import Derived.OpenShut
set_option linter.unusedVariables false
set_option linter.unusedSimpArgs false
namespace Go.Proofs.Ytnpkhkhlofkbhaa.Pure
open Go.RowKit Go.Proofs.Ytnpkhkhlofkbhaa.PWordRight Go.Proofs.YtnpkhkhlofkbhaaW.PrintWords Go.Proofs.YtnpkhkhlofkbhaaW.PrintLast Go.Proofs.YtnpkhkhlofkbhaaW.PrintMore

theorem wrap64_id {n : Int} (h0 : -9223372036854775808 ≤ n) (h1 : n ≤ 9223372036854775807) : wrap64 n = n := by unfold wrap64; omega
theorem ex_succ {k n : Nat} (h : n < k) : ∃ m, k = m + 1 := ⟨k - 1, by omega⟩
def Bytes (l : List Int) : Prop := ∀ x ∈ l, 0 ≤ x ∧ x ≤ 255
theorem bytes_of {l : List Int} (h : ∀ x ∈ l, (Lit.int .u8 x).wf = true) : Bytes l := fun x hx => bounds_u8 (h x hx)
theorem rd_at {l : List Int} (i : Nat) (h : i < l.length) : rd l (i : Int) = l[i] := by
  unfold rd
  simp [List.getD_eq_getElem?_getD, List.getElem?_eq_getElem h]
theorem rd_bytes {l : List Int} (h : Bytes l) (i : Int) : 0 ≤ rd l i ∧ rd l i ≤ 255 := by
  unfold rd
  rw [List.getD_eq_getElem?_getD]
  rcases Nat.lt_or_ge i.toNat l.length with hl | hl
  · rw [List.getElem?_eq_getElem hl]; exact h _ (List.getElem_mem hl)
  · rw [List.getElem?_eq_none hl]; simp
theorem Bytes.take {l : List Int} (h : Bytes l) (n : Nat) : Bytes (l.take n) := fun x hx => h x (List.mem_of_mem_take hx)
theorem Bytes.drop {l : List Int} (h : Bytes l) (n : Nat) : Bytes (l.drop n) := fun x hx => h x (List.mem_of_mem_drop hx)
theorem Bytes.cons {a : Int} {l : List Int} (h : Bytes (a :: l)) : (0 ≤ a ∧ a ≤ 255) ∧ Bytes l := ⟨h a (by simp), fun x hx => h x (by simp [hx])⟩
theorem u64w (n : Int) : IntKind.u64.wrap n = n % 18446744073709551616 := by simp [IntKind.wrap, IntKind.bits, IntKind.signed]
theorem wraps_u64 (n : Int) (h₀ : 0 ≤ n) (h₁ : n < 2 ^ 64) : IntKind.u64.wrap n = n := by rw [u64w]; omega
theorem wraps_u32 (n : Int) (h₀ : 0 ≤ n) (h₁ : n < 2 ^ 32) : IntKind.u32.wrap n = n := by rw [IntKind.wrap_u32]; omega
theorem tmod_nn {a b : Int} (h : 0 ≤ a) : Int.tmod a b = a % b := Int.tmod_eq_emod_of_nonneg h
theorem tdiv_nn {a b : Int} (h : 0 ≤ a) : Int.tdiv a b = a / b := Int.tdiv_eq_ediv_of_nonneg h
theorem u32_mask31 (x : Int) (h0 : 0 ≤ x) (h1 : x < 4294967296) : Go.bits .and .u32 x 2147483647 = x % 2147483648 :=
  bits_mask .u32 32 (by decide) wraps_u32 31 (by decide) x h0 h1
/-! numbers of bytes -/
def vs (v x : Int) : Int := (v * 256) % 18446744073709551616 + x
def val (l : List Int) : Int := l.foldl vs 0
theorem or_step (v x : Int) (h0 : 0 ≤ x) (h1 : x ≤ 255) : Go.bits .or .u64 (IntKind.u64.wrap (v * 256)) (IntKind.u64.wrap x) = vs v x := by
  rw [u64w, u64w, show x % 18446744073709551616 = x by omega]
  exact bits_join .u64 64 (by decide) wraps_u64 8 _ x (by omega) (by omega) (by omega) h0 (by omega) (by omega)
theorem add_step (v x : Int) (h0 : 0 ≤ x) (h1 : x ≤ 255) : IntKind.u64.wrap (IntKind.u64.wrap (256 * v) + IntKind.u64.wrap x) = vs v x := by
  rw [u64w, u64w, u64w]; unfold vs; omega
theorem vs_range (v x : Int) (h0 : 0 ≤ x) (h1 : x ≤ 255) : 0 ≤ vs v x ∧ vs v x < 18446744073709551616 := by unfold vs; omega
theorem foldl_range : ∀ (l : List Int) (v : Int), Bytes l → 0 ≤ v → v < 18446744073709551616 → 0 ≤ l.foldl vs v ∧ l.foldl vs v < 18446744073709551616
  | [], v, _, h0, h1 => ⟨h0, h1⟩
  | a :: l, v, hb, _, _ => by
    have h := vs_range v a hb.cons.1.1 hb.cons.1.2
    exact foldl_range l _ hb.cons.2 h.1 h.2
theorem val_range {l : List Int} (hb : Bytes l) : 0 ≤ val l ∧ val l < 18446744073709551616 := foldl_range l 0 hb (by omega) (by omega)
theorem value_l0 (l : List Int) (hb : Bytes l) (hl : l.length ≤ 9223372036854775806) : ∀ (d k : Nat) (v : Int) (i : Nat), i + d = l.length → d < k → word_value.l0 k v l (l.length : Int) (i : Int) = some ((l.drop i).foldl vs v) := by
  intro d
  induction d with
  | zero =>
    intro k v i hi hk
    obtain ⟨k, rfl⟩ := ex_succ hk
    simp only [word_value.l0]
    rw [if_neg (by omega), List.drop_eq_nil_of_le (by omega)]; rfl
  | succ d ih =>
    intro k v i hi hk
    obtain ⟨k, rfl⟩ := ex_succ hk
    have hlt : i < l.length := by omega
    simp only [word_value.l0]
    rw [if_pos (by omega), if_pos (by omega), if_pos (by omega), or_step _ _ (rd_bytes hb _).1 (rd_bytes hb _).2, wrap64_id (by omega) (by omega), show ((i : Int) + 1) = ((i + 1 : Nat) : Int) by omega, ih k _ (i + 1) (by omega) (by omega), rd_at i hlt, List.drop_eq_getElem_cons hlt]
    rfl
theorem value_f (l : List Int) (hb : Bytes l) (hl : l.length ≤ 9223372036854775806) (k : Nat) (hk : l.length < k) : word_value.f k l = some (val l) := by
  unfold word_value.f
  rw [show (0 : Int) = ((0 : Nat) : Int) from rfl, value_l0 l hb hl l.length k _ 0 (by omega) hk]; rfl
/-! words -/
def wordsOf : List Int → List Int
  | a :: b :: c :: d :: t => (val [a, b, c, d] % 4294967296) :: wordsOf t
  | _ => []
theorem words_l0 : ∀ (n : Nat) (l : List Int), l.length ≤ n → Bytes l → ∀ (k : Nat) (out : List Int), l.length + 6 ≤ k → out.length + l.length / 4 < 35184372088832 → word_Words.l0 k l out = some (out ++ wordsOf l) := by
  intro n
  induction n with
  | zero =>
    intro l hn hb k out hk ho
    obtain ⟨k, rfl⟩ := ex_succ (show 0 < k by omega)
    obtain rfl : l = [] := List.eq_nil_of_length_eq_zero (by omega)
    simp [word_Words.l0, wordsOf]
  | succ n ih =>
    intro l hn hb k out hk ho
    obtain ⟨k, rfl⟩ := ex_succ (show 0 < k by omega)
    by_cases h4 : 4 ≤ l.length
    · match l, h4, hb, hn, hk, ho with
      | a :: b :: c :: d :: t, h4, hb, hn, hk, ho =>
        simp only [List.length_cons] at hn hk ho
        have hbt : Bytes t := hb.cons.2.cons.2.cons.2.cons.2
        have hb4 : Bytes [a, b, c, d] := hb.take 4
        simp only [word_Words.l0]
        rw [if_pos (by simp only [List.length_cons]; omega), if_pos (by simp only [List.length_cons]; omega), show (a :: b :: c :: d :: t).take 4 = [a, b, c, d] from rfl, value_f _ hb4 (by simp) k (by simp only [List.length_cons, List.length_nil]; omega)]
        simp only [Option.bind_some]
        rw [if_pos (by omega), show (a :: b :: c :: d :: t).drop 4 = t from rfl, ih t (by omega) hbt k _ (by omega) (by simp only [List.length_append, List.length_cons, List.length_nil]; omega)]
        simp [wordsOf]
    · have hw : wordsOf l = [] := by
        match l, h4 with
        | [], _ => rfl
        | [_], _ => rfl
        | [_, _], _ => rfl
        | [_, _, _], _ => rfl
        | _ :: _ :: _ :: _ :: t, h => simp at h
      simp only [word_Words.l0]
      rw [if_neg (by omega), hw, List.append_nil]
theorem words_f (l : List Int) (hb : Bytes l) (k : Nat) (hk : l.length + 6 ≤ k) (hl : l.length / 4 < 35184372088832) : word_Words.f k l = some (wordsOf l) := by
  unfold word_Words.f
  rw [words_l0 l.length l (Nat.le_refl _) hb k [] hk (by simpa using hl)]; simp
/-! strings of bytes -/
theorem toList_loop (b : ByteArray) : ∀ (d i : Nat) (r : List UInt8), i + d = b.size → ByteArray.toList.loop b i r = r.reverse ++ b.data.toList.drop i := by
  intro d
  induction d with
  | zero =>
    intro i r h
    rw [ByteArray.toList.loop, if_neg (by omega), List.drop_eq_nil_of_le (by rw [Array.length_toList]; show b.size ≤ i; omega), List.append_nil]
  | succ d ih =>
    intro i r h
    have hlt : i < b.size := by omega
    have hl : i < b.data.toList.length := by rw [Array.length_toList]; exact hlt
    have hg : b.get! i = b.data.toList[i] := by
      show b.data[i]! = _
      rw [getElem!_pos b.data i hlt, Array.getElem_toList]
    rw [ByteArray.toList.loop, if_pos hlt, ih (i + 1) _ (by omega), List.drop_eq_getElem_cons hl, hg]
    simp
theorem toList_data (b : ByteArray) : b.toList = b.data.toList := by
  unfold ByteArray.toList
  rw [toList_loop b b.size 0 [] (by omega)]
  simp
theorem str_toList (xs : List Int) : (strOfNums xs).toList = xs.map fun n => UInt8.ofNat n.toNat := by
  rw [toList_data]; simp [strOfNums]
theorem ofNat_inj (a b : Int) (ha : 0 ≤ a ∧ a ≤ 255) (hb : 0 ≤ b ∧ b ≤ 255) (h : UInt8.ofNat a.toNat = UInt8.ofNat b.toNat) : a = b := by
  have h2 := congrArg UInt8.toNat h
  simp only [UInt8.toNat_ofNat'] at h2
  omega
theorem map_inj : ∀ (xs ys : List Int), Bytes xs → Bytes ys → (xs.map fun n => UInt8.ofNat n.toNat) = (ys.map fun n => UInt8.ofNat n.toNat) → xs = ys
  | [], [], _, _, _ => rfl
  | [], _ :: _, _, _, h => by simp at h
  | _ :: _, [], _, _, h => by simp at h
  | x :: xs, y :: ys, hx, hy, h => by
    simp only [List.map_cons, List.cons.injEq] at h
    rw [ofNat_inj x y hx.cons.1 hy.cons.1 h.1, map_inj xs ys hx.cons.2 hy.cons.2 h.2]
theorem str_inj (xs ys : List Int) (hx : Bytes xs) (hy : Bytes ys) : (strOfNums xs).toList = (strOfNums ys).toList ↔ xs = ys := by
  rw [str_toList, str_toList]
  exact ⟨map_inj xs ys hx hy, fun h => by rw [h]⟩
theorem str_beq (xs ys : List Int) (hx : Bytes xs) (hy : Bytes ys) : ((strOfNums xs).toList == (strOfNums ys).toList) = decide (xs = ys) := by
  by_cases h : xs = ys
  · subst h; simp
  · rw [decide_eq_false h, beq_eq_false_iff_ne]
    exact fun h2 => h ((str_inj xs ys hx hy).1 h2)
theorem str_size (xs : List Int) : (strOfNums xs).size = xs.length := by
  show (strOfNums xs).data.size = _
  simp [strOfNums]
theorem str_append (xs ys : List Int) : strOfNums (xs ++ ys) = strOfNums xs ++ strOfNums ys := by
  apply ByteArray.ext
  simp [strOfNums]
theorem str_bt (xs : List Int) (hx : Bytes xs) (i : Nat) (h : i < xs.length) : bt (strOfNums xs) (i : Int) = xs[i] := by
  have hs : i < (strOfNums xs).size := by rw [str_size]; exact h
  have hr := hx xs[i] (List.getElem_mem h)
  unfold bt
  simp only [Int.toNat_natCast]
  rw [dif_pos hs, ByteArray.getElem_eq_getElem_data]
  simp only [strOfNums, List.getElem_toArray, List.getElem_map, UInt8.toNat_ofNat']
  omega
theorem str_extract (xs : List Int) (i : Nat) : (strOfNums xs).extract i (strOfNums xs).size = strOfNums (xs.drop i) := by
  apply ByteArray.ext
  rw [ByteArray.data_extract]
  show ((strOfNums xs).data.extract i (strOfNums xs).data.size) = _
  simp [strOfNums, List.map_drop]
  exact List.take_of_length_le (by simp)
/-! a word turned -/
def rotl1 (x : Int) : Int := (2 * x) % 4294967296 + x / 2147483648
def rotr1 (x : Int) : Int := x / 2 + (x % 2) * 2147483648
def itl : Nat → Int → Int
  | 0, x => x
  | n + 1, x => rotl1 (itl n x)
def U32 (x : Int) : Prop := 0 ≤ x ∧ x < 4294967296
theorem rotl1_u (x : Int) (h : U32 x) : U32 (rotl1 x) := by unfold U32 rotl1 at *; omega
theorem rotr1_u (x : Int) (h : U32 x) : U32 (rotr1 x) := by unfold U32 rotr1 at *; omega
theorem rot_lr (x : Int) (h : U32 x) : rotl1 (rotr1 x) = x := by
  unfold U32 rotl1 rotr1 at *
  rcases (show x % 2 = 0 ∨ x % 2 = 1 by omega) with e | e <;> (rw [e]; omega)
theorem rot_rl (x : Int) (h : U32 x) : rotr1 (rotl1 x) = x := by
  unfold U32 rotl1 rotr1 at *
  rcases (show x / 2147483648 = 0 ∨ x / 2147483648 = 1 by omega) with e | e <;> (rw [e]; omega)
theorem rsplit (x Q : Int) (hQ : 0 < Q) (hx : 0 ≤ x) : ∃ hi b l : Int, x = hi * (2 * Q) + b * Q + l ∧ 0 ≤ hi ∧ 0 ≤ l ∧ l < Q ∧ (b = 0 ∨ b = 1) := by
  refine ⟨x / (2 * Q), (x % (2 * Q)) / Q, (x % (2 * Q)) % Q, ?_, Int.ediv_nonneg hx (by omega), Int.emod_nonneg _ (by omega), Int.emod_lt_of_pos _ hQ, ?_⟩
  · have h1 := Int.mul_ediv_add_emod x (2 * Q)
    have h2 := Int.mul_ediv_add_emod (x % (2 * Q)) Q
    rw [Int.mul_comm (x / (2 * Q)) (2 * Q), Int.mul_comm ((x % (2 * Q)) / Q) Q]
    omega
  · have h1 := Int.emod_lt_of_pos x (show 0 < 2 * Q by omega)
    have h3 := Int.emod_nonneg x (show 2 * Q ≠ 0 by omega)
    have h0 : 0 ≤ (x % (2 * Q)) / Q := Int.ediv_nonneg h3 (by omega)
    have h2 : (x % (2 * Q)) / Q < 2 := Int.ediv_lt_of_lt_mul hQ h1
    omega
theorem itl_u : ∀ (n : Nat) (x : Int), U32 x → U32 (itl n x)
  | 0, _, h => h
  | n + 1, x, h => rotl1_u _ (itl_u n x h)
theorem itl_add : ∀ (m n : Nat) (x : Int), itl (m + n) x = itl m (itl n x)
  | 0, n, x => by rw [Nat.zero_add]; rfl
  | m + 1, n, x => by rw [show m + 1 + n = (m + n) + 1 by omega]; simp only [itl]; rw [itl_add m n x]
theorem rot_step (x : Int) (h : U32 x) : ∀ s : Nat, s < 31 → rotl1 ((x * 2 ^ s) % 4294967296 + x / 2 ^ (32 - s)) = (x * 2 ^ (s + 1)) % 4294967296 + x / 2 ^ (32 - (s + 1)) := by
  intro s hs
  unfold U32 at h
  have hc : s = 0 ∨ s = 1 ∨ s = 2 ∨ s = 3 ∨ s = 4 ∨ s = 5 ∨ s = 6 ∨ s = 7 ∨ s = 8 ∨ s = 9 ∨ s = 10 ∨ s = 11 ∨ s = 12 ∨ s = 13 ∨ s = 14 ∨ s = 15 ∨ s = 16 ∨ s = 17 ∨ s = 18 ∨ s = 19 ∨ s = 20 ∨ s = 21 ∨ s = 22 ∨ s = 23 ∨ s = 24 ∨ s = 25 ∨ s = 26 ∨ s = 27 ∨ s = 28 ∨ s = 29 ∨ s = 30 := by omega
  obtain ⟨hi, b, l, e, h1, h2, h3, hb⟩ := rsplit x (2 ^ (31 - s)) (Int.pow_pos (by omega)) h.1
  have d1 : x / 2 ^ (32 - s) = hi := by
    rcases hc with rfl | rfl | rfl | rfl | rfl | rfl | rfl | rfl | rfl | rfl | rfl | rfl | rfl | rfl | rfl | rfl | rfl | rfl | rfl | rfl | rfl | rfl | rfl | rfl | rfl | rfl | rfl | rfl | rfl | rfl | rfl <;> rcases hb with rfl | rfl <;> (simp only [Nat.reduceAdd, Nat.reduceSub, Int.reducePow] at e h3 ⊢; subst e; omega)
  have d2 : x / 2 ^ (32 - (s + 1)) = 2 * hi + b := by
    rcases hc with rfl | rfl | rfl | rfl | rfl | rfl | rfl | rfl | rfl | rfl | rfl | rfl | rfl | rfl | rfl | rfl | rfl | rfl | rfl | rfl | rfl | rfl | rfl | rfl | rfl | rfl | rfl | rfl | rfl | rfl | rfl <;> rcases hb with rfl | rfl <;> (simp only [Nat.reduceAdd, Nat.reduceSub, Int.reducePow] at e h3 ⊢; subst e; omega)
  have d3 : (x * 2 ^ s) % 4294967296 = b * 2147483648 + l * 2 ^ s := by
    rcases hc with rfl | rfl | rfl | rfl | rfl | rfl | rfl | rfl | rfl | rfl | rfl | rfl | rfl | rfl | rfl | rfl | rfl | rfl | rfl | rfl | rfl | rfl | rfl | rfl | rfl | rfl | rfl | rfl | rfl | rfl | rfl <;> rcases hb with rfl | rfl <;> (simp only [Nat.reduceAdd, Nat.reduceSub, Int.reducePow] at e h3 ⊢; subst e; omega)
  have d4 : (x * 2 ^ (s + 1)) % 4294967296 = l * 2 ^ s * 2 := by
    rcases hc with rfl | rfl | rfl | rfl | rfl | rfl | rfl | rfl | rfl | rfl | rfl | rfl | rfl | rfl | rfl | rfl | rfl | rfl | rfl | rfl | rfl | rfl | rfl | rfl | rfl | rfl | rfl | rfl | rfl | rfl | rfl <;> rcases hb with rfl | rfl <;> (simp only [Nat.reduceAdd, Nat.reduceSub, Int.reducePow] at e h3 ⊢; subst e; omega)
  have d5 : 0 ≤ hi + l * 2 ^ s ∧ hi + l * 2 ^ s < 2147483648 := by
    rcases hc with rfl | rfl | rfl | rfl | rfl | rfl | rfl | rfl | rfl | rfl | rfl | rfl | rfl | rfl | rfl | rfl | rfl | rfl | rfl | rfl | rfl | rfl | rfl | rfl | rfl | rfl | rfl | rfl | rfl | rfl | rfl <;> rcases hb with rfl | rfl <;> (simp only [Nat.reduceAdd, Nat.reduceSub, Int.reducePow] at e h3 ⊢; subst e; omega)
  rw [d1, d2, d3, d4]
  clear d1 d2 d3 d4 hc e h3
  generalize l * 2 ^ s = m at *
  unfold rotl1
  rcases hb with rfl | rfl <;> omega
theorem itl_form (x : Int) (h : U32 x) : ∀ s : Nat, s < 32 → itl s x = (x * 2 ^ s) % 4294967296 + x / 2 ^ (32 - s)
  | 0, _ => by unfold U32 at h; simp only [itl, Nat.sub_zero, Int.reducePow]; omega
  | s + 1, hs => by
    simp only [itl]
    rw [itl_form x h s (by omega)]
    exact rot_step x h s (by omega)
theorem itl_32 (x : Int) (h : U32 x) : itl 32 x = x := by
  show rotl1 (itl 31 x) = x
  rw [itl_form x h 31 (by omega)]
  unfold U32 at h
  unfold rotl1
  simp only [Nat.reduceSub, Int.reducePow]
  rcases (show x % 2 = 0 ∨ x % 2 = 1 by omega) with e | e <;> omega
theorem itl_mod (x : Int) (h : U32 x) (n : Nat) : itl n x = itl (n % 32) x := by
  have key : ∀ q r : Nat, itl (32 * q + r) x = itl r x := by
    intro q
    induction q with
    | zero => intro r; rw [Nat.mul_zero, Nat.zero_add]
    | succ q ih => intro r; rw [show 32 * (q + 1) + r = 32 + (32 * q + r) by omega, itl_add 32, itl_32 _ (itl_u _ x h), ih r]
  have h2 := key (n / 32) (n % 32)
  rwa [Nat.div_add_mod] at h2
theorem tmod_form (n b : Int) (hb : 0 < b) : ∃ q, n = b * q + Int.tmod n b ∧ -b < Int.tmod n b ∧ Int.tmod n b < b := by
  refine ⟨Int.tdiv n b, (Int.mul_tdiv_add_tmod n b).symm, ?_, Int.tmod_lt_of_pos n hb⟩
  have h := Int.tmod_lt_of_pos (-n) hb
  rw [Int.neg_tmod] at h
  omega
theorem u64_and31 (a : Int) : Go.bits .and .u64 (IntKind.u64.wrap a) 31 = a % 32 := by
  have h := bits_mask .u64 64 (by decide) wraps_u64 5 (by decide) (a % 18446744073709551616) (by omega) (by omega)
  rw [u64w]
  have e : ((2 : Int) ^ 5 - 1) = 31 := by decide
  have e2 : ((2 : Int) ^ 5) = 32 := by decide
  rw [e, e2] at h
  rw [h]; omega
theorem rotate_f (x a : Int) (h : U32 x) : bits_RotateLeft32.f x a = some (itl (a % 32).toNat x) := by
  obtain ⟨s, hs⟩ : ∃ s : Nat, a % 32 = (s : Int) := ⟨(a % 32).toNat, by omega⟩
  have hlt : s < 32 := by omega
  unfold bits_RotateLeft32.f
  rw [u64_and31, hs, if_pos (by omega), u64w, show (32 - (s : Int)) % 18446744073709551616 = ((32 - s : Nat) : Int) by omega, if_pos (by omega), Int.toNat_natCast, itl_form x h s hlt]
  have e1 : shl .u32 x (s : Int) = (x * 2 ^ s) % 4294967296 := by
    unfold shl; rw [Int.toNat_natCast, IntKind.wrap_u32, show min s IntKind.u32.bits = s from Nat.min_eq_left (Nat.le_of_lt hlt)]
  have e2 : shr .u32 x ((32 - s : Nat) : Int) = x / 2 ^ (32 - s) := by
    unfold shr; rw [Int.toNat_natCast, show min (32 - s) IntKind.u32.bits = 32 - s from Nat.min_eq_left (Nat.sub_le _ _)]
  rw [e1, e2]
  have hp : (0 : Int) < 2 ^ (32 - s) := Int.pow_pos (by omega)
  have hq : (0 : Int) < 2 ^ s := Int.pow_pos (by omega)
  have hpq : (2 : Int) ^ s * 2 ^ (32 - s) = 4294967296 := by
    rw [← Int.pow_add, show s + (32 - s) = 32 by omega]; rfl
  have hlt2 : x / 2 ^ (32 - s) < 2 ^ s := by
    refine Int.ediv_lt_of_lt_mul hp ?_
    rw [hpq]; exact h.2
  have h0 : 0 ≤ x / 2 ^ (32 - s) := Int.ediv_nonneg h.1 (by omega)
  have hle : x / 2 ^ (32 - s) ≤ x := Int.ediv_le_self _ h.1
  have hm : ((x * 2 ^ s) % 4294967296) % 2 ^ s = 0 := by
    rw [Int.emod_emod_of_dvd _ ⟨2 ^ (32 - s), hpq.symm⟩, Int.mul_emod_left]
  unfold U32 at h
  rw [bits_join .u32 32 (by decide) wraps_u32 s _ _ (by omega) hm (by omega) h0 hlt2 (by omega)]
theorem rot_f (x n : Int) (h : U32 x) : word_Rot.f x n = some (itl ((-n) % 32).toNat x) := by
  obtain ⟨q, h1, h2, h3⟩ := tmod_form n 32 (by omega)
  unfold word_Rot.f
  rw [wrap64_id (by omega) (by omega), rotate_f _ _ h]
  simp only [Option.bind_some]
  rw [show (-Int.tmod n 32) % 32 = (-n) % 32 by omega]

/-! WordRight: what the other hand computes -/
def itr : Nat → Int → Int
  | 0, x => x
  | n + 1, x => itr n (rotr1 x)
theorem itr_u : ∀ (n : Nat) (x : Int), U32 x → U32 (itr n x)
  | 0, _, h => h
  | n + 1, x, h => itr_u n _ (rotr1_u x h)
theorem itl_itr : ∀ (n : Nat) (x : Int), U32 x → itl n (itr n x) = x
  | 0, _, _ => rfl
  | n + 1, x, h => by
    simp only [itl, itr]
    rw [itl_itr n _ (rotr1_u x h), rot_lr x h]
theorem itr_itl (n : Nat) (x : Int) (h : U32 x) (hn : n ≤ 32) : itr n x = itl (32 - n) x := by
  have h1 := itl_add (32 - n) n (itr n x)
  rw [itl_itr n x h, show 32 - n + n = 32 by omega, itl_32 _ (itr_u n x h)] at h1
  exact h1
theorem refRot_l0 (m : Nat) (hm : m < 32) : ∀ (d k : Nat) (y : Int) (i : Nat), U32 y → i + d = m → d < k → wristbandref01_Rot.l0 k y (m : Int) (i : Int) = some (itr d y) := by
  intro d
  induction d with
  | zero =>
    intro k y i hy hi hk
    obtain ⟨k, rfl⟩ := ex_succ hk
    simp only [wristbandref01_Rot.l0]
    rw [if_neg (by omega)]; rfl
  | succ d ih =>
    intro k y i hy hi hk
    obtain ⟨k, rfl⟩ := ex_succ hk
    have hy' := hy
    unfold U32 at hy'
    have e0 : Int.tmod y 2 = y % 2 := tmod_nn hy'.1
    have e1 : Int.tdiv y 2 = y / 2 := tdiv_nn hy'.1
    simp only [wristbandref01_Rot.l0, e0, e1]
    rw [if_pos (by omega)]
    have hw : wrap64 ((i : Int) + 1) = ((i + 1 : Nat) : Int) := by rw [wrap64_id (by omega) (by omega)]; omega
    have key := ih k (rotr1 y) (i + 1) (rotr1_u y hy) (by omega) (by omega)
    rw [hw]
    clear hw
    by_cases h : y % 2 = 1
    · rw [if_pos h, show (y / 2 % 4294967296 + 2147483648) % 4294967296 = rotr1 y by unfold rotr1; omega, key]; rfl
    · rw [if_neg h, show y / 2 % 4294967296 = rotr1 y by unfold rotr1; omega, key]; rfl
theorem refRot_f (x n : Int) (h : U32 x) (k : Nat) (hk : 40 ≤ k) : wristbandref01_Rot.f k x n = some (itl ((-n) % 32).toNat x) := by
  obtain ⟨q, h1, h2, h3⟩ := tmod_form n 32 (by omega)
  obtain ⟨k, rfl⟩ := ex_succ (show 0 < k by omega)
  have main : ∀ m : Nat, m < 32 → (m : Int) = n % 32 → wristbandref01_Rot.j0 (k + 1) x (m : Int) = some (itl ((-n) % 32).toNat x) := by
    intro m hm e
    simp only [wristbandref01_Rot.j0]
    rw [show (0 : Int) = ((0 : Nat) : Int) from rfl, refRot_l0 m hm m k x 0 h (by omega) (by omega), itr_itl m x h (by omega), itl_mod x h (32 - m), show (32 - m) % 32 = ((-n) % 32).toNat by omega]
  unfold wristbandref01_Rot.f
  by_cases hneg : Int.tmod n 32 < 0
  · rw [if_pos hneg, wrap64_id (by omega) (by omega), show Int.tmod n 32 + 32 = ((n % 32).toNat : Int) by omega]
    exact main _ (by omega) (by omega)
  · rw [if_neg hneg, show Int.tmod n 32 = ((n % 32).toNat : Int) by omega]
    exact main _ (by omega) (by omega)
theorem refSame_l0 (l : List Int) (hl : l.length ≤ 9223372036854775806) : ∀ (d k : Nat) (i : Nat), i + d = l.length → d < k → wristbandref01_Same.l0 k l l (i : Int) = some true := by
  intro d
  induction d with
  | zero =>
    intro k i hi hk
    obtain ⟨k, rfl⟩ := ex_succ hk
    simp only [wristbandref01_Same.l0]
    rw [if_neg (by omega)]
  | succ d ih =>
    intro k i hi hk
    obtain ⟨k, rfl⟩ := ex_succ hk
    simp only [wristbandref01_Same.l0]
    rw [if_pos (by omega), if_pos (by omega), if_pos (by omega), if_true, wrap64_id (by omega) (by omega), show ((i : Int) + 1) = ((i + 1 : Nat) : Int) by omega]
    exact ih k (i + 1) (by omega) (by omega)
theorem refSame_f (l : List Int) (hl : l.length ≤ 9223372036854775806) (k : Nat) (hk : l.length < k) : wristbandref01_Same.f k l l = some true := by
  unfold wristbandref01_Same.f
  rw [if_pos rfl]
  exact refSame_l0 l hl l.length k 0 (by omega) hk
theorem wordsOf_len : ∀ (n : Nat) (l : List Int), l.length ≤ n → (wordsOf l).length ≤ l.length
  | 0, l, h => by obtain rfl : l = [] := List.eq_nil_of_length_eq_zero (by omega); simp [wordsOf]
  | n + 1, [], _ => by simp [wordsOf]
  | n + 1, [_], _ => by simp [wordsOf]
  | n + 1, [_, _], _ => by simp [wordsOf]
  | n + 1, [_, _, _], _ => by simp [wordsOf]
  | n + 1, a :: b :: c :: d :: t, h => by
    have := wordsOf_len n t (by simp only [List.length_cons] at h; omega)
    simp only [wordsOf, List.length_cons]; omega
theorem wordsOf_short (l : List Int) (h : l.length < 4) : wordsOf l = [] := by
  match l, h with
  | [], _ => rfl
  | [_], _ => rfl
  | [_, _], _ => rfl
  | [_, _, _], _ => rfl
  | _ :: _ :: _ :: _ :: t, h => simp only [List.length_cons] at h; omega
theorem drop4 (l : List Int) (i : Nat) (h : i + 3 < l.length) : l.drop i = rd l (i : Int) :: rd l ((i + 1 : Nat) : Int) :: rd l ((i + 2 : Nat) : Int) :: rd l ((i + 3 : Nat) : Int) :: l.drop (i + 4) := by
  rw [rd_at i (by omega), rd_at (i + 1) (by omega), rd_at (i + 2) (by omega), rd_at (i + 3) (by omega), List.drop_eq_getElem_cons (show i < l.length by omega), List.drop_eq_getElem_cons (show i + 1 < l.length by omega), List.drop_eq_getElem_cons (show i + 1 + 1 < l.length by omega), List.drop_eq_getElem_cons (show i + 1 + 1 + 1 < l.length by omega)]
theorem word4 (a b c d : Int) (ha : 0 ≤ a ∧ a ≤ 255) (hb : 0 ≤ b ∧ b ≤ 255) (hc : 0 ≤ c ∧ c ≤ 255) (hd : 0 ≤ d ∧ d ≤ 255) :
    (((((((16777216 * (a % 4294967296)) % 4294967296) + ((65536 * (b % 4294967296)) % 4294967296)) % 4294967296) + ((256 * (c % 4294967296)) % 4294967296)) % 4294967296) + (d % 4294967296)) % 4294967296 = val [a, b, c, d] % 4294967296 := by
  simp only [val, List.foldl, vs]; omega
theorem refWords_l0 (l : List Int) (hb : Bytes l) (hl : l.length ≤ 140737488351232) : ∀ (d k : Nat) (out : List Int) (i : Nat), l.length ≤ i + d → i ≤ l.length → d < k → out.length + (l.length - i) / 4 < 35184372088832 → wristbandref01_Words.l0 k l out (i : Int) = some (out ++ wordsOf (l.drop i)) := by
  intro d
  induction d with
  | zero =>
    intro k out i hi hi2 hk ho
    obtain ⟨k, rfl⟩ := ex_succ hk
    have hw : wrap64 ((i : Int) + 3) = ((i + 3 : Nat) : Int) := by rw [wrap64_id (by omega) (by omega)]; omega
    simp only [wristbandref01_Words.l0, hw]
    clear hw
    rw [if_neg (by omega), List.drop_eq_nil_of_le (by omega), wordsOf_short [] (by simp), List.append_nil]
  | succ d ih =>
    intro k out i hi hi2 hk ho
    obtain ⟨k, rfl⟩ := ex_succ hk
    have hw1 : wrap64 ((i : Int) + 1) = ((i + 1 : Nat) : Int) := by rw [wrap64_id (by omega) (by omega)]; omega
    have hw2 : wrap64 ((i : Int) + 2) = ((i + 2 : Nat) : Int) := by rw [wrap64_id (by omega) (by omega)]; omega
    have hw3 : wrap64 ((i : Int) + 3) = ((i + 3 : Nat) : Int) := by rw [wrap64_id (by omega) (by omega)]; omega
    have hw4 : wrap64 ((i : Int) + 4) = ((i + 4 : Nat) : Int) := by rw [wrap64_id (by omega) (by omega)]; omega
    simp only [wristbandref01_Words.l0, hw1, hw2, hw3, hw4]
    clear hw1 hw2 hw3 hw4
    by_cases h : i + 3 < l.length
    · rw [if_pos (by omega), if_pos (by omega), if_pos (by omega), if_pos (by omega), if_pos (by omega), if_pos (by omega), if_pos (by omega), if_pos (by omega), if_pos (by omega), word4 _ _ _ _ (rd_bytes hb _) (rd_bytes hb _) (rd_bytes hb _) (rd_bytes hb _), ih k _ (i + 4) (by omega) (by omega) (by omega) (by simp only [List.length_append, List.length_cons, List.length_nil]; omega), drop4 l i h]
      simp [wordsOf]
    · rw [if_neg (by omega), wordsOf_short _ (by rw [List.length_drop]; omega), List.append_nil]
theorem refWords_f (l : List Int) (hb : Bytes l) (hl : l.length ≤ 140737488351232) (k : Nat) (hk : l.length < k) : wristbandref01_Words.f k l = some (wordsOf l) := by
  unfold wristbandref01_Words.f
  rw [show (0 : Int) = ((0 : Nat) : Int) from rfl, refWords_l0 l hb hl l.length k [] 0 (by omega) (by omega) hk (by simp only [List.length_nil]; omega)]; simp
/-! bytes of words -/
def word4b (x : Int) : List Int := [(x / 16777216) % 256, (x / 65536) % 256, (x / 256) % 256, x % 256]
def bytesOf : List Int → List Int
  | [] => []
  | a :: t => word4b a ++ bytesOf t
theorem word4b_bytes (x : Int) : Bytes (word4b x) := by
  intro y hy
  simp only [word4b, List.mem_cons, List.not_mem_nil, or_false] at hy
  omega
theorem bytesOf_bytes : ∀ l : List Int, Bytes (bytesOf l)
  | [] => fun _ h => by simp [bytesOf] at h
  | a :: t => fun x h => by
    simp only [bytesOf, List.mem_append] at h
    rcases h with h | h
    · exact word4b_bytes a x h
    · exact bytesOf_bytes t x h
def Words (l : List Int) : Prop := ∀ x ∈ l, 0 ≤ x ∧ x < 4294967296
theorem rd_words {l : List Int} (h : Words l) (i : Nat) (hi : i < l.length) : 0 ≤ rd l (i : Int) ∧ rd l (i : Int) < 4294967296 := by
  rw [rd_at i hi]; exact h _ (List.getElem_mem hi)
theorem drop_rd (l : List Int) (i : Nat) (h : i < l.length) : l.drop i = rd l (i : Int) :: l.drop (i + 1) := by
  rw [rd_at i h, List.drop_eq_getElem_cons h]
theorem bytes_l0 (l : List Int) (hl : l.length ≤ 35184372087808) : ∀ (d k : Nat) (out : List Int) (i : Nat), i + d = l.length → d < k → out.length + 4 * d < 140737488355328 → word_Bytes.l0 k out l (l.length : Int) (i : Int) = some (out ++ bytesOf (l.drop i)) := by
  intro d
  induction d with
  | zero =>
    intro k out i hi hk ho
    obtain ⟨k, rfl⟩ := ex_succ hk
    simp only [word_Bytes.l0]
    rw [if_neg (by omega), List.drop_eq_nil_of_le (by omega)]; simp [bytesOf]
  | succ d ih =>
    intro k out i hi hk ho
    obtain ⟨k, rfl⟩ := ex_succ hk
    have hw1 : wrap64 ((i : Int) + 1) = ((i + 1 : Nat) : Int) := by rw [wrap64_id (by omega) (by omega)]; omega
    simp only [word_Bytes.l0, hw1, Option.bind_some]
    clear hw1
    rw [if_pos (by omega), if_pos (by omega), if_pos (by omega), if_pos (by simp only [List.length_cons, List.length_nil]; omega), ih k _ (i + 1) (by omega) (by omega) (by simp only [List.length_append, List.length_cons, List.length_nil]; omega), drop_rd l i (by omega)]
    simp [bytesOf, word4b]
theorem bytes_f (l : List Int) (hl : l.length ≤ 35184372087808) (k : Nat) (hk : l.length < k) : word_Bytes.f k l = some (bytesOf l) := by
  unfold word_Bytes.f
  rw [show (0 : Int) = ((0 : Nat) : Int) from rfl, bytes_l0 l hl l.length k [] 0 (by omega) hk (by simp only [List.length_nil]; omega)]; simp
theorem ref4b (x : Int) (h0 : 0 ≤ x) (h1 : x < 4294967296) : [((Int.tdiv x 16777216) % 4294967296) % 256, ((Int.tdiv x 65536) % 4294967296) % 256, ((Int.tdiv x 256) % 4294967296) % 256, (Int.tmod x 256) % 256] = word4b x := by
  rw [tdiv_nn h0, tdiv_nn h0, tdiv_nn h0, tmod_nn h0]
  unfold word4b
  rw [show x / 16777216 % 4294967296 = x / 16777216 by omega, show x / 65536 % 4294967296 = x / 65536 by omega, show x / 256 % 4294967296 = x / 256 by omega, show x % 256 % 256 = x % 256 by omega]
theorem refBytes_l0 (l : List Int) (hw : Words l) (hl : l.length ≤ 35184372087808) : ∀ (d k : Nat) (out : List Int) (i : Nat), i + d = l.length → d < k → out.length + 4 * d < 140737488355328 → wristbandref01_Bytes.l0 k l out (i : Int) = some (out ++ bytesOf (l.drop i)) := by
  intro d
  induction d with
  | zero =>
    intro k out i hi hk ho
    obtain ⟨k, rfl⟩ := ex_succ hk
    simp only [wristbandref01_Bytes.l0]
    rw [if_neg (by omega), List.drop_eq_nil_of_le (by omega)]; simp [bytesOf]
  | succ d ih =>
    intro k out i hi hk ho
    obtain ⟨k, rfl⟩ := ex_succ hk
    have hw1 : wrap64 ((i : Int) + 1) = ((i + 1 : Nat) : Int) := by rw [wrap64_id (by omega) (by omega)]; omega
    have hr := rd_words hw i (by omega)
    simp only [wristbandref01_Bytes.l0, hw1, Option.bind_some, ref4b _ hr.1 hr.2]
    clear hw1
    rw [if_pos (by omega), if_pos (by omega), if_pos (by simp only [word4b, List.length_cons, List.length_nil]; omega), ih k _ (i + 1) (by omega) (by omega) (by simp only [word4b, List.length_append, List.length_cons, List.length_nil]; omega), drop_rd l i (by omega)]
    simp [bytesOf]
theorem refBytes_f (l : List Int) (hw : Words l) (hl : l.length ≤ 35184372087808) (k : Nat) (hk : l.length < k) : wristbandref01_Bytes.f k l = some (bytesOf l) := by
  unfold wristbandref01_Bytes.f
  rw [show wristbandref01_Bytes.l0 k l [] 0 = wristbandref01_Bytes.l0 k l [] ((0 : Nat) : Int) from rfl, refBytes_l0 l hw hl l.length k [] 0 (by omega) hk (by simp only [List.length_nil]; omega)]; simp
theorem refValue_l0 (l : List Int) (hb : Bytes l) (hl : l.length ≤ 9223372036854775806) : ∀ (d k : Nat) (v : Int) (i : Nat), i + d = l.length → d < k → wristbandref01_Value.l0 k l v (i : Int) = some ((l.drop i).foldl vs v) := by
  intro d
  induction d with
  | zero =>
    intro k v i hi hk
    obtain ⟨k, rfl⟩ := ex_succ hk
    simp only [wristbandref01_Value.l0]
    rw [if_neg (by omega), List.drop_eq_nil_of_le (by omega)]; rfl
  | succ d ih =>
    intro k v i hi hk
    obtain ⟨k, rfl⟩ := ex_succ hk
    have hlt : i < l.length := by omega
    simp only [wristbandref01_Value.l0]
    rw [if_pos (by omega), if_pos (by omega), add_step _ _ (rd_bytes hb _).1 (rd_bytes hb _).2, wrap64_id (by omega) (by omega), show ((i : Int) + 1) = ((i + 1 : Nat) : Int) by omega, ih k _ (i + 1) (by omega) (by omega), rd_at i hlt, List.drop_eq_getElem_cons hlt]
    rfl
theorem refValue_f (l : List Int) (hb : Bytes l) (hl : l.length ≤ 9223372036854775806) (k : Nat) (hk : l.length < k) : wristbandref01_Value.f k l = some (val l) := by
  unfold wristbandref01_Value.f
  rw [show wristbandref01_Value.l0 k l 0 0 = wristbandref01_Value.l0 k l 0 ((0 : Nat) : Int) from rfl, refValue_l0 l hb hl l.length k _ 0 (by omega) hk]; rfl
/-! a number's eight bytes -/
def p8 (x : Int) : List Int := [x / 72057594037927936 % 256, x / 281474976710656 % 256, x / 1099511627776 % 256, x / 4294967296 % 256, x / 16777216 % 256, x / 65536 % 256, x / 256 % 256, x % 256]
def U64 (x : Int) : Prop := 0 ≤ x ∧ x < 18446744073709551616
theorem p8_bytes (x : Int) : Bytes (p8 x) := by
  intro y hy
  simp only [p8, List.mem_cons, List.not_mem_nil, or_false] at hy
  omega
theorem put_f (x : Int) (h : U64 x) (k : Nat) (hk : 2 < k) : word_Put.f k x = some (p8 x) := by
  unfold U64 at h
  unfold word_Put.f
  rw [bytes_f _ (by simp) k (by simpa using hk)]
  simp only [Option.bind_some, bytesOf, word4b, List.cons_append, List.nil_append, List.append_nil, p8]
  rw [show x / 4294967296 % 4294967296 / 16777216 % 256 = x / 72057594037927936 % 256 by omega, show x / 4294967296 % 4294967296 / 65536 % 256 = x / 281474976710656 % 256 by omega, show x / 4294967296 % 4294967296 / 256 % 256 = x / 1099511627776 % 256 by omega, show x / 4294967296 % 4294967296 % 256 = x / 4294967296 % 256 by omega, show x % 4294967296 / 16777216 % 256 = x / 16777216 % 256 by omega, show x % 4294967296 / 65536 % 256 = x / 65536 % 256 by omega, show x % 4294967296 / 256 % 256 = x / 256 % 256 by omega, show x % 4294967296 % 256 = x % 256 by omega]
theorem refPut_step (k : Nat) (x : Int) (l : List Int) (i : Nat) (hi : i < 8) (hl : l.length = 8) (h : U64 x) : wristbandref01_Put.l0 (k + 1) x l (i : Int) = wristbandref01_Put.l0 k (x / 256) (l.set (7 - i) (x % 256)) ((i + 1 : Nat) : Int) := by
  unfold U64 at h
  have hw1 : wrap64 ((i : Int) + 1) = ((i + 1 : Nat) : Int) := by rw [wrap64_id (by omega) (by omega)]; omega
  have hw7 : wrap64 (7 - (i : Int)) = ((7 - i : Nat) : Int) := by rw [wrap64_id (by omega) (by omega)]; omega
  have e0 : Int.tmod x 256 = x % 256 := tmod_nn h.1
  have e1 : Int.tdiv x 256 = x / 256 := tdiv_nn h.1
  simp only [wristbandref01_Put.l0, hw1, hw7, e0, e1]
  clear hw1 hw7 e0 e1
  rw [if_pos (by omega), if_pos (by omega), if_pos (by omega), u64w, show x / 256 % 18446744073709551616 = x / 256 by omega, Int.toNat_natCast, show x % 256 % 256 = x % 256 by omega]
theorem u64_div {x : Int} (h : U64 x) : U64 (x / 256) := by unfold U64 at *; omega
theorem refPut_f (x : Int) (h : U64 x) (k : Nat) (hk : 9 ≤ k) : wristbandref01_Put.f k x = some (p8 x) := by
  obtain ⟨k, rfl⟩ : ∃ m, k = m + 1 + 1 + 1 + 1 + 1 + 1 + 1 + 1 + 1 := ⟨k - 9, by omega⟩
  have h1 := u64_div h
  have h2 := u64_div h1
  have h3 := u64_div h2
  have h4 := u64_div h3
  have h5 := u64_div h4
  have h6 := u64_div h5
  have h7 := u64_div h6
  unfold wristbandref01_Put.f
  rw [if_pos (by omega), show (0 : Int) = ((0 : Nat) : Int) from rfl, refPut_step _ _ _ 0 (by omega) (by simp) h, refPut_step _ _ _ 1 (by omega) (by simp) h1, refPut_step _ _ _ 2 (by omega) (by simp) h2, refPut_step _ _ _ 3 (by omega) (by simp) h3, refPut_step _ _ _ 4 (by omega) (by simp) h4, refPut_step _ _ _ 5 (by omega) (by simp) h5, refPut_step _ _ _ 6 (by omega) (by simp) h6, refPut_step _ _ _ 7 (by omega) (by simp) h7]
  simp only [wristbandref01_Put.l0]
  rw [if_neg (by omega)]
  unfold U64 at h
  show some [x / 256 / 256 / 256 / 256 / 256 / 256 / 256 % 256, x / 256 / 256 / 256 / 256 / 256 / 256 % 256, x / 256 / 256 / 256 / 256 / 256 % 256, x / 256 / 256 / 256 / 256 % 256, x / 256 / 256 / 256 % 256, x / 256 / 256 % 256, x / 256 % 256, x % 256] = _
  unfold p8
  rw [show x / 256 / 256 / 256 / 256 / 256 / 256 / 256 = x / 72057594037927936 by omega, show x / 256 / 256 / 256 / 256 / 256 / 256 = x / 281474976710656 by omega, show x / 256 / 256 / 256 / 256 / 256 = x / 1099511627776 by omega, show x / 256 / 256 / 256 / 256 = x / 4294967296 by omega, show x / 256 / 256 / 256 = x / 16777216 by omega, show x / 256 / 256 = x / 65536 by omega]
/-! the least bytes of a number -/
theorem lt_bitLen : ∀ (k x : Nat), x < 2 ^ 64 → 2 ^ k ≤ x → k < Lib.bitLen x
  | 0, x, h, h1 => by
    rw [Lib.bitLen_half x (by simp at h1; omega) h]; omega
  | k + 1, x, h, h1 => by
    have h2 : 2 ^ (k + 1) = 2 * 2 ^ k := by rw [Nat.pow_succ]; omega
    have h3 : 0 < 2 ^ k := Nat.two_pow_pos k
    have := lt_bitLen k (x / 2) (by omega) (by omega)
    rw [Lib.bitLen_half x (by omega) h]; omega
theorem m_cases (x : Int) (h : U64 x) : ∃ m : Nat, m ≤ 8 ∧ x < 256 ^ m ∧ (m = 0 ∨ 256 ^ (m - 1) ≤ x) := by
  unfold U64 at h
  rcases (show x < 1 ∨ (1 ≤ x ∧ x < 256) ∨ (256 ≤ x ∧ x < 65536) ∨ (65536 ≤ x ∧ x < 16777216) ∨ (16777216 ≤ x ∧ x < 4294967296) ∨ (4294967296 ≤ x ∧ x < 1099511627776) ∨ (1099511627776 ≤ x ∧ x < 281474976710656) ∨ (281474976710656 ≤ x ∧ x < 72057594037927936) ∨ (72057594037927936 ≤ x ∧ x < 18446744073709551616) by omega) with c | c | c | c | c | c | c | c | c
  · exact ⟨0, by omega, by simp only [Int.reducePow]; omega, Or.inl rfl⟩
  · exact ⟨1, by omega, by simp only [Int.reducePow]; omega, Or.inr (by simp only [Nat.reduceSub, Int.reducePow]; omega)⟩
  · exact ⟨2, by omega, by simp only [Int.reducePow]; omega, Or.inr (by simp only [Nat.reduceSub, Int.reducePow]; omega)⟩
  · exact ⟨3, by omega, by simp only [Int.reducePow]; omega, Or.inr (by simp only [Nat.reduceSub, Int.reducePow]; omega)⟩
  · exact ⟨4, by omega, by simp only [Int.reducePow]; omega, Or.inr (by simp only [Nat.reduceSub, Int.reducePow]; omega)⟩
  · exact ⟨5, by omega, by simp only [Int.reducePow]; omega, Or.inr (by simp only [Nat.reduceSub, Int.reducePow]; omega)⟩
  · exact ⟨6, by omega, by simp only [Int.reducePow]; omega, Or.inr (by simp only [Nat.reduceSub, Int.reducePow]; omega)⟩
  · exact ⟨7, by omega, by simp only [Int.reducePow]; omega, Or.inr (by simp only [Nat.reduceSub, Int.reducePow]; omega)⟩
  · exact ⟨8, by omega, by simp only [Int.reducePow]; omega, Or.inr (by simp only [Nat.reduceSub, Int.reducePow]; omega)⟩
theorem bitLen_m (x : Int) (h : U64 x) (m : Nat) (hm : m ≤ 8) (h1 : x < 256 ^ m) (h2 : m = 0 ∨ 256 ^ (m - 1) ≤ x) : (Lib.bitLen x.toNat + 7) / 8 = m := by
  unfold U64 at h
  have hup : Lib.bitLen x.toNat ≤ 8 * m := by
    refine Lib.bitLen_le _ _ (by omega) ?_
    rcases (show m = 0 ∨ m = 1 ∨ m = 2 ∨ m = 3 ∨ m = 4 ∨ m = 5 ∨ m = 6 ∨ m = 7 ∨ m = 8 by omega) with rfl | rfl | rfl | rfl | rfl | rfl | rfl | rfl | rfl <;> (simp only [Int.reducePow, Nat.reduceMul, Nat.reducePow] at h1 ⊢; omega)
  rcases h2 with rfl | h2
  · omega
  · have hlo : 8 * (m - 1) < Lib.bitLen x.toNat ∨ m = 0 := by
      rcases (show m = 0 ∨ m = 1 ∨ m = 2 ∨ m = 3 ∨ m = 4 ∨ m = 5 ∨ m = 6 ∨ m = 7 ∨ m = 8 by omega) with rfl | rfl | rfl | rfl | rfl | rfl | rfl | rfl | rfl
      · exact Or.inr rfl
      all_goals exact Or.inl (lt_bitLen _ _ (by omega) (by simp only [Int.reducePow, Nat.reduceSub, Nat.reduceMul, Nat.reducePow] at h2 ⊢; omega))
    omega
theorem drop_m (x : Int) (h : U64 x) (m : Nat) (hm : m ≤ 8) (h1 : x < 256 ^ m) (h2 : m = 0 ∨ 256 ^ (m - 1) ≤ x) : (p8 x).dropWhile (fun y => decide (y = 0)) = (p8 x).drop (8 - m) := by
  unfold U64 at h
  have z : ∀ {a : Int} {t : List Int}, a = 0 → (a :: t).dropWhile (fun y => decide (y = 0)) = t.dropWhile (fun y => decide (y = 0)) := by
    intro a t ha; simp [List.dropWhile, ha]
  have nz : ∀ {a : Int} {t : List Int}, a ≠ 0 → (a :: t).dropWhile (fun y => decide (y = 0)) = a :: t := by
    intro a t ha; simp [List.dropWhile, ha]
  unfold p8
  rcases (show m = 0 ∨ m = 1 ∨ m = 2 ∨ m = 3 ∨ m = 4 ∨ m = 5 ∨ m = 6 ∨ m = 7 ∨ m = 8 by omega) with rfl | rfl | rfl | rfl | rfl | rfl | rfl | rfl | rfl <;> simp only [Int.reducePow, Nat.reduceSub] at h1 h2
  · rw [z (by omega), z (by omega), z (by omega), z (by omega), z (by omega), z (by omega), z (by omega), z (by omega)]; rfl
  · rw [z (by omega), z (by omega), z (by omega), z (by omega), z (by omega), z (by omega), z (by omega), nz (by omega)]; rfl
  · rw [z (by omega), z (by omega), z (by omega), z (by omega), z (by omega), z (by omega), nz (by omega)]; rfl
  · rw [z (by omega), z (by omega), z (by omega), z (by omega), z (by omega), nz (by omega)]; rfl
  · rw [z (by omega), z (by omega), z (by omega), z (by omega), nz (by omega)]; rfl
  · rw [z (by omega), z (by omega), z (by omega), nz (by omega)]; rfl
  · rw [z (by omega), z (by omega), nz (by omega)]; rfl
  · rw [z (by omega), nz (by omega)]; rfl
  · rw [nz (by omega)]; rfl
theorem refLeast_l0 : ∀ (l : List Int) (k : Nat), l.length < k → l.length < 140737488355328 → wristbandref01_Least.l0 k l = some (l.dropWhile (fun y => decide (y = 0)))
  | [], k, hk, _ => by
    obtain ⟨k, rfl⟩ := ex_succ hk
    simp [wristbandref01_Least.l0]
  | a :: t, k, hk, hl => by
    obtain ⟨k, rfl⟩ := ex_succ (Nat.lt_of_le_of_lt (Nat.zero_le _) hk)
    simp only [List.length_cons] at hk hl
    have hr : rd (a :: t) 0 = a := rfl
    have ih := refLeast_l0 t k (by omega) (by omega)
    simp only [wristbandref01_Least.l0, hr, Option.bind_some, List.length_cons, List.length_nil, List.nil_append]
    rw [if_pos (by omega), if_pos (by omega)]
    by_cases h : a = 0
    · rw [if_pos h, if_pos (by omega), show (a :: t).drop (1 : Int).toNat = t from rfl, ih]; simp [List.dropWhile, h]
    · rw [if_neg h, if_pos (by omega)]; simp [List.dropWhile, h]
theorem cut_eq (b m : Nat) (hb : (b + 7) / 8 = m) (hm : m ≤ 8) (hL : b ≤ 64) : wrap64 (8 - (wrap64 (Int.tdiv (wrap64 ((b : Int) + 7)) 8))) = ((8 - m : Nat) : Int) := by
  rw [wrap64_id (show -9223372036854775808 ≤ (b : Int) + 7 by omega) (by omega), tdiv_nn (show (0 : Int) ≤ (b : Int) + 7 by omega), wrap64_id (show -9223372036854775808 ≤ ((b : Int) + 7) / 8 by omega) (by omega), wrap64_id (by omega) (by omega)]
  omega
theorem len_f (x : Int) (h : U64 x) : bits_Len64.f x = some ((Lib.bitLen x.toNat : Nat) : Int) := by
  unfold U64 at h
  unfold bits_Len64.f
  rw [if_pos h.1, if_pos (by omega)]
theorem clone_f (l : List Int) (h : l.length < 140737488355328) : slices_Clone_byte_byte.f l = some l := by
  unfold slices_Clone_byte_byte.f
  rw [if_pos h]
theorem p8_len (x : Int) : (p8 x).length = 8 := rfl
theorem least_f (x : Int) (h : U64 x) (k : Nat) (hk : 2 < k) (m : Nat) (hm : m ≤ 8) (h1 : x < 256 ^ m) (h2 : m = 0 ∨ 256 ^ (m - 1) ≤ x) : word_Least.f k x = some ((p8 x).drop (8 - m)) := by
  have hb := bitLen_m x h m hm h1 h2
  have hL : Lib.bitLen x.toNat ≤ 64 := by omega
  clear h1 h2
  unfold word_Least.f
  rw [len_f x h]
  simp only [Option.bind_some]
  rw [cut_eq _ m hb hm hL]
  generalize hq : 8 - m = q
  have hql : q ≤ 8 := by omega
  clear hb hL hq
  rw [put_f x h k hk]
  simp only [Option.bind_some]
  rw [if_pos (by omega), p8_len, if_pos (by omega), Int.toNat_natCast, clone_f _ (by rw [List.length_drop, p8_len]; omega)]
  simp only [Option.bind_some]
theorem refLeast_f (x : Int) (h : U64 x) (k : Nat) (hk : 9 ≤ k) (m : Nat) (hm : m ≤ 8) (h1 : x < 256 ^ m) (h2 : m = 0 ∨ 256 ^ (m - 1) ≤ x) : wristbandref01_Least.f k x = some ((p8 x).drop (8 - m)) := by
  unfold wristbandref01_Least.f
  rw [refPut_f x h k hk]
  simp only [Option.bind_some]
  rw [refLeast_l0 (p8 x) k (by rw [p8_len]; omega) (by rw [p8_len]; omega), drop_m x h m hm h1 h2]
/-! the law -/
theorem get_f (l : List Int) (hb : Bytes l) (hl : l.length ≤ 9223372036854775806) (k : Nat) (hk : l.length < k) : word_Get.f k l = some (if (l.length : Int) = 8 then (val l, 0) else (0, 1)) := by
  unfold word_Get.f
  by_cases h : (l.length : Int) = 8
  · rw [if_pos h, if_pos h, value_f l hb hl k hk]; rfl
  · rw [if_neg h, if_neg h]
theorem fromLeast_eq (l : List Int) (hb : Bytes l) (hl : l.length ≤ 9223372036854775806) (k j : Nat) (hk : l.length < k) (hj : l.length < j) : wristbandref01_FromLeast.f j l = word_FromLeast.f k l ∧ ∃ r, word_FromLeast.f k l = some r := by
  unfold word_FromLeast.f wristbandref01_FromLeast.f
  rw [value_f l hb hl k hk, refValue_f l hb hl j hj]
  refine ⟨rfl, ?_⟩
  simp only [Option.bind_some]
  by_cases h1 : (l.length : Int) > 8
  · rw [if_pos h1]; exact ⟨_, rfl⟩
  · rw [if_neg h1]
    by_cases h2 : (l.length : Int) > 0
    · rw [if_pos h2, if_pos h2]
      by_cases h3 : rd l 0 = 0
      · rw [if_pos h3]; exact ⟨_, rfl⟩
      · rw [if_neg h3]; exact ⟨_, rfl⟩
    · rw [if_neg h2]; exact ⟨_, rfl⟩
theorem words_of {l : List Int} (h : ∀ x ∈ l, (Lit.int .u32 x).wf = true) : Words l := fun x hx => by have := bounds_u32 (h x hx); omega
theorem WordRight_j2 (k : Nat) (l2 : List Int) (a4 : Int) (hb : Bytes l2) (hl : l2.length ≤ 9223372036854775806) (h4 : U64 a4) (hk : l2.length + 20 ≤ k) : wristbandlaw01_WordRight.j2 (k + 1) l2 a4 = some true := by
  obtain ⟨e, r, hr⟩ := fromLeast_eq l2 hb hl k k (by omega) (by omega)
  obtain ⟨m, hm, m1, m2⟩ := m_cases a4 h4
  simp only [wristbandlaw01_WordRight.j2]
  rw [e, hr]
  simp only [Option.bind_some, if_true]
  rw [put_f a4 h4 k (by omega), refPut_f a4 h4 k (by omega), least_f a4 h4 k (by omega) m hm m1 m2, refLeast_f a4 h4 k (by omega) m hm m1 m2]
  simp only [Option.bind_some, if_true, beq_self_eq_true]
theorem WordRight_j1 (k : Nat) (l2 : List Int) (a4 : Int) (hb : Bytes l2) (hl : l2.length ≤ 9223372036854775806) (h4 : U64 a4) (hk : l2.length + 20 ≤ k) : wristbandlaw01_WordRight.j1 (k + 1 + 1) l2 a4 false = some true := by
  simp only [wristbandlaw01_WordRight.j1]
  rw [if_neg (by decide), get_f l2 hb hl (k + 1) (by omega)]
  simp only [Option.bind_some]
  by_cases h : (l2.length : Int) = 8
  · rw [if_pos h, if_pos h]
    simp only [if_true]
    rw [refValue_f l2 hb hl (k + 1) (by omega)]
    simp only [Option.bind_some, if_true]
    exact WordRight_j2 k l2 a4 hb hl h4 hk
  · rw [if_neg h, if_neg h]
    simp only [if_true]
    exact WordRight_j2 k l2 a4 hb hl h4 hk
theorem WordRight_j0 (k : Nat) (x n : Int) (l2 l3 : List Int) (a4 : Int) (hx : U32 x) (hb : Bytes l2) (hl : l2.length ≤ 140737488351232) (hw : Words l3) (hl3 : l3.length ≤ 35184372087808) (h4 : U64 a4) (hk : l2.length + l3.length + 50 ≤ k) : wristbandlaw01_WordRight.j0 (k + 1 + 1 + 1) x n l2 l3 a4 false = some true := by
  simp only [wristbandlaw01_WordRight.j0]
  rw [if_neg (by decide), rot_f x n hx, refRot_f x n hx _ (by omega)]
  simp only [Option.bind_some, if_true]
  have hlen := wordsOf_len l2.length l2 (Nat.le_refl _)
  rw [words_f l2 hb _ (by omega) (by omega), refWords_f l2 hb hl _ (by omega)]
  simp only [Option.bind_some]
  rw [refSame_f _ (by omega) _ (by omega)]
  simp only [Option.bind_some, if_true]
  rw [bytes_f l3 hl3 _ (by omega), refBytes_f l3 hw hl3 _ (by omega)]
  simp only [Option.bind_some, bne_self_eq_false]
  exact WordRight_j1 k l2 a4 hb (by omega) h4 (by omega)
theorem awake1 : wristbandlaw01_awake.f 200 = some true := by
  unfold wristbandlaw01_awake.f
  simp only [toList_data]
  decide +kernel
theorem awake1_at (k : Nat) (hk : 200 ≤ k) : wristbandlaw01_awake.f k = some true := at_rounds wristbandlaw01_awake.mono hk awake1
theorem WordRight : wristbandlaw01_WordRight.Pure := by
  intro x n l2 l3 a4 h0 _ _ _ hb0 _ _ hw0 h4
  have hx : U32 x := by have := bounds_u32 h0; unfold U32; omega
  have h4' : U64 a4 := by have := bounds_u64 h4; unfold U64; omega
  refine ⟨(l2.length + l3.length + 300) + 1 + 1 + 1, ?_⟩
  unfold wristbandlaw01_WordRight.f
  rw [awake1_at _ (by omega)]
  simp only [Option.bind_some, if_true]
  by_cases c2 : (l2.length : Int) > 3000
  · rw [if_pos c2]; simp only [wristbandlaw01_WordRight.j0]; rw [if_pos trivial]
  · rw [if_neg c2]
    by_cases c3 : (l3.length : Int) > 3000
    · rw [decide_eq_true c3]; simp only [wristbandlaw01_WordRight.j0]; rw [if_pos trivial]
    · rw [decide_eq_false c3]
      exact WordRight_j0 _ x n l2 l3 a4 hx (bytes_of hb0) (by omega) (words_of hw0) (by omega) h4' (by omega)

end Go.Proofs.Ytnpkhkhlofkbhaa.Pure
