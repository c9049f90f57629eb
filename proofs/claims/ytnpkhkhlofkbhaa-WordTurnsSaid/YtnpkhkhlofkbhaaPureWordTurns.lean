/- WordTurns: for every input the law answers true: a word turned by one number and by another is turned by both together; by none or 32 it is as it was; and back again. No condition. -/
import Derived.Test.YtnpkhkhlofkbhaaPWordTurnsx2
import Derived.OpenShut
set_option linter.unusedVariables false
set_option linter.unusedSimpArgs false
namespace Go.Proofs.Ytnpkhkhlofkbhaa.Pure
open Go.RowKit Go.Proofs.Ytnpkhkhlofkbhaa.PWordTurns Go.Proofs.YtnpkhkhlofkbhaaW.PrintWords Go.Proofs.YtnpkhkhlofkbhaaW.PrintLast Go.Proofs.YtnpkhkhlofkbhaaW.PrintMore

theorem wrap64_id {n : Int} (h0 : -9223372036854775808 ≤ n) (h1 : n ≤ 9223372036854775807) : wrap64 n = n := by unfold wrap64; omega
theorem ex_succ {k n : Nat} (h : n < k) : ∃ m, k = m + 1 := ⟨k - 1, by omega⟩
def Bytes (l : List Int) : Prop := ∀ x ∈ l, 0 ≤ x ∧ x ≤ 255
theorem bytes_of {l : List Int} (h : ∀ x ∈ l, (Lit.int .u8 x).wf = true) : Bytes l := fun x hx => bounds_u8 (h x hx)
theorem rd_at {l : List Int} (i : Nat) (h : i < l.length) : rd l (i : Int) = l[i] := by
  unfold rd
  simp [List.getD_eq_getElem?_getD, List.getElem?_eq_getElem h]
theorem rd_bytes {l : List Int} (h : Bytes l) (i : Int) : 0 ≤ rd l i ∧ rd l i ≤ 255 := by
  unfold rd
  rw [List.getD_eq_getElem?_getD]
  rcases Nat.lt_or_ge i.toNat l.length with hl | hl
  · rw [List.getElem?_eq_getElem hl]; exact h _ (List.getElem_mem hl)
  · rw [List.getElem?_eq_none hl]; simp
theorem Bytes.take {l : List Int} (h : Bytes l) (n : Nat) : Bytes (l.take n) := fun x hx => h x (List.mem_of_mem_take hx)
theorem Bytes.drop {l : List Int} (h : Bytes l) (n : Nat) : Bytes (l.drop n) := fun x hx => h x (List.mem_of_mem_drop hx)
theorem Bytes.cons {a : Int} {l : List Int} (h : Bytes (a :: l)) : (0 ≤ a ∧ a ≤ 255) ∧ Bytes l := ⟨h a (by simp), fun x hx => h x (by simp [hx])⟩
theorem u64w (n : Int) : IntKind.u64.wrap n = n % 18446744073709551616 := by simp [IntKind.wrap, IntKind.bits, IntKind.signed]
theorem wraps_u64 (n : Int) (h₀ : 0 ≤ n) (h₁ : n < 2 ^ 64) : IntKind.u64.wrap n = n := by rw [u64w]; omega
theorem wraps_u32 (n : Int) (h₀ : 0 ≤ n) (h₁ : n < 2 ^ 32) : IntKind.u32.wrap n = n := by rw [IntKind.wrap_u32]; omega
theorem tmod_nn {a b : Int} (h : 0 ≤ a) : Int.tmod a b = a % b := Int.tmod_eq_emod_of_nonneg h
theorem tdiv_nn {a b : Int} (h : 0 ≤ a) : Int.tdiv a b = a / b := Int.tdiv_eq_ediv_of_nonneg h
theorem u32_mask31 (x : Int) (h0 : 0 ≤ x) (h1 : x < 4294967296) : Go.bits .and .u32 x 2147483647 = x % 2147483648 :=
  bits_mask .u32 32 (by decide) wraps_u32 31 (by decide) x h0 h1
/-! numbers of bytes -/
def vs (v x : Int) : Int := (v * 256) % 18446744073709551616 + x
def val (l : List Int) : Int := l.foldl vs 0
theorem or_step (v x : Int) (h0 : 0 ≤ x) (h1 : x ≤ 255) : Go.bits .or .u64 (IntKind.u64.wrap (v * 256)) (IntKind.u64.wrap x) = vs v x := by
  rw [u64w, u64w, show x % 18446744073709551616 = x by omega]
  exact bits_join .u64 64 (by decide) wraps_u64 8 _ x (by omega) (by omega) (by omega) h0 (by omega) (by omega)
theorem add_step (v x : Int) (h0 : 0 ≤ x) (h1 : x ≤ 255) : IntKind.u64.wrap (IntKind.u64.wrap (256 * v) + IntKind.u64.wrap x) = vs v x := by
  rw [u64w, u64w, u64w]; unfold vs; omega
theorem vs_range (v x : Int) (h0 : 0 ≤ x) (h1 : x ≤ 255) : 0 ≤ vs v x ∧ vs v x < 18446744073709551616 := by unfold vs; omega
theorem foldl_range : ∀ (l : List Int) (v : Int), Bytes l → 0 ≤ v → v < 18446744073709551616 → 0 ≤ l.foldl vs v ∧ l.foldl vs v < 18446744073709551616
  | [], v, _, h0, h1 => ⟨h0, h1⟩
  | a :: l, v, hb, _, _ => by
    have h := vs_range v a hb.cons.1.1 hb.cons.1.2
    exact foldl_range l _ hb.cons.2 h.1 h.2
theorem val_range {l : List Int} (hb : Bytes l) : 0 ≤ val l ∧ val l < 18446744073709551616 := foldl_range l 0 hb (by omega) (by omega)
theorem value_l0 (l : List Int) (hb : Bytes l) (hl : l.length ≤ 9223372036854775806) : ∀ (d k : Nat) (v : Int) (i : Nat), i + d = l.length → d < k → word_value.l0 k v l (l.length : Int) (i : Int) = some ((l.drop i).foldl vs v) := by
  intro d
  induction d with
  | zero =>
    intro k v i hi hk
    obtain ⟨k, rfl⟩ := ex_succ hk
    simp only [word_value.l0]
    rw [if_neg (by omega), List.drop_eq_nil_of_le (by omega)]; rfl
  | succ d ih =>
    intro k v i hi hk
    obtain ⟨k, rfl⟩ := ex_succ hk
    have hlt : i < l.length := by omega
    simp only [word_value.l0]
    rw [if_pos (by omega), if_pos (by omega), if_pos (by omega), or_step _ _ (rd_bytes hb _).1 (rd_bytes hb _).2, wrap64_id (by omega) (by omega), show ((i : Int) + 1) = ((i + 1 : Nat) : Int) by omega, ih k _ (i + 1) (by omega) (by omega), rd_at i hlt, List.drop_eq_getElem_cons hlt]
    rfl
theorem value_f (l : List Int) (hb : Bytes l) (hl : l.length ≤ 9223372036854775806) (k : Nat) (hk : l.length < k) : word_value.f k l = some (val l) := by
  unfold word_value.f
  rw [show (0 : Int) = ((0 : Nat) : Int) from rfl, value_l0 l hb hl l.length k _ 0 (by omega) hk]; rfl
/-! words -/
def wordsOf : List Int → List Int
  | a :: b :: c :: d :: t => (val [a, b, c, d] % 4294967296) :: wordsOf t
  | _ => []
theorem words_l0 : ∀ (n : Nat) (l : List Int), l.length ≤ n → Bytes l → ∀ (k : Nat) (out : List Int), l.length + 6 ≤ k → out.length + l.length < 35184372088832 → word_Words.l0 k l out = some (out ++ wordsOf l) := by
  intro n
  induction n with
  | zero =>
    intro l hn hb k out hk ho
    obtain ⟨k, rfl⟩ := ex_succ (show 0 < k by omega)
    obtain rfl : l = [] := List.eq_nil_of_length_eq_zero (by omega)
    simp [word_Words.l0, wordsOf]
  | succ n ih =>
    intro l hn hb k out hk ho
    obtain ⟨k, rfl⟩ := ex_succ (show 0 < k by omega)
    by_cases h4 : 4 ≤ l.length
    · match l, h4, hb, hn, hk, ho with
      | a :: b :: c :: d :: t, h4, hb, hn, hk, ho =>
        simp only [List.length_cons] at hn hk ho
        have hbt : Bytes t := hb.cons.2.cons.2.cons.2.cons.2
        have hb4 : Bytes [a, b, c, d] := hb.take 4
        simp only [word_Words.l0]
        rw [if_pos (by simp only [List.length_cons]; omega), if_pos (by simp only [List.length_cons]; omega), show (a :: b :: c :: d :: t).take 4 = [a, b, c, d] from rfl, value_f _ hb4 (by simp) k (by simp only [List.length_cons, List.length_nil]; omega)]
        simp only [Option.bind_some]
        rw [if_pos (by omega), show (a :: b :: c :: d :: t).drop 4 = t from rfl, ih t (by omega) hbt k _ (by omega) (by simp only [List.length_append, List.length_cons, List.length_nil]; omega)]
        simp [wordsOf]
    · have hw : wordsOf l = [] := by
        match l, h4 with
        | [], _ => rfl
        | [_], _ => rfl
        | [_, _], _ => rfl
        | [_, _, _], _ => rfl
        | _ :: _ :: _ :: _ :: t, h => simp at h
      simp only [word_Words.l0]
      rw [if_neg (by omega), hw, List.append_nil]
theorem words_f (l : List Int) (hb : Bytes l) (k : Nat) (hk : l.length + 6 ≤ k) (hl : l.length < 35184372088832) : word_Words.f k l = some (wordsOf l) := by
  unfold word_Words.f
  rw [words_l0 l.length l (Nat.le_refl _) hb k [] hk (by simpa using hl)]; simp
/-! strings of bytes -/
theorem toList_loop (b : ByteArray) : ∀ (d i : Nat) (r : List UInt8), i + d = b.size → ByteArray.toList.loop b i r = r.reverse ++ b.data.toList.drop i := by
  intro d
  induction d with
  | zero =>
    intro i r h
    rw [ByteArray.toList.loop, if_neg (by omega), List.drop_eq_nil_of_le (by rw [Array.length_toList]; show b.size ≤ i; omega), List.append_nil]
  | succ d ih =>
    intro i r h
    have hlt : i < b.size := by omega
    have hl : i < b.data.toList.length := by rw [Array.length_toList]; exact hlt
    have hg : b.get! i = b.data.toList[i] := by
      show b.data[i]! = _
      rw [getElem!_pos b.data i hlt, Array.getElem_toList]
    rw [ByteArray.toList.loop, if_pos hlt, ih (i + 1) _ (by omega), List.drop_eq_getElem_cons hl, hg]
    simp
theorem toList_data (b : ByteArray) : b.toList = b.data.toList := by
  unfold ByteArray.toList
  rw [toList_loop b b.size 0 [] (by omega)]
  simp
theorem str_toList (xs : List Int) : (strOfNums xs).toList = xs.map fun n => UInt8.ofNat n.toNat := by
  rw [toList_data]; simp [strOfNums]
theorem ofNat_inj (a b : Int) (ha : 0 ≤ a ∧ a ≤ 255) (hb : 0 ≤ b ∧ b ≤ 255) (h : UInt8.ofNat a.toNat = UInt8.ofNat b.toNat) : a = b := by
  have h2 := congrArg UInt8.toNat h
  simp only [UInt8.toNat_ofNat'] at h2
  omega
theorem map_inj : ∀ (xs ys : List Int), Bytes xs → Bytes ys → (xs.map fun n => UInt8.ofNat n.toNat) = (ys.map fun n => UInt8.ofNat n.toNat) → xs = ys
  | [], [], _, _, _ => rfl
  | [], _ :: _, _, _, h => by simp at h
  | _ :: _, [], _, _, h => by simp at h
  | x :: xs, y :: ys, hx, hy, h => by
    simp only [List.map_cons, List.cons.injEq] at h
    rw [ofNat_inj x y hx.cons.1 hy.cons.1 h.1, map_inj xs ys hx.cons.2 hy.cons.2 h.2]
theorem str_inj (xs ys : List Int) (hx : Bytes xs) (hy : Bytes ys) : (strOfNums xs).toList = (strOfNums ys).toList ↔ xs = ys := by
  rw [str_toList, str_toList]
  exact ⟨map_inj xs ys hx hy, fun h => by rw [h]⟩
theorem str_beq (xs ys : List Int) (hx : Bytes xs) (hy : Bytes ys) : ((strOfNums xs).toList == (strOfNums ys).toList) = decide (xs = ys) := by
  by_cases h : xs = ys
  · subst h; simp
  · rw [decide_eq_false h, beq_eq_false_iff_ne]
    exact fun h2 => h ((str_inj xs ys hx hy).1 h2)
theorem str_size (xs : List Int) : (strOfNums xs).size = xs.length := by
  show (strOfNums xs).data.size = _
  simp [strOfNums]
theorem str_append (xs ys : List Int) : strOfNums (xs ++ ys) = strOfNums xs ++ strOfNums ys := by
  apply ByteArray.ext
  simp [strOfNums]
theorem str_bt (xs : List Int) (hx : Bytes xs) (i : Nat) (h : i < xs.length) : bt (strOfNums xs) (i : Int) = xs[i] := by
  have hs : i < (strOfNums xs).size := by rw [str_size]; exact h
  have hr := hx xs[i] (List.getElem_mem h)
  unfold bt
  simp only [Int.toNat_natCast]
  rw [dif_pos hs, ByteArray.getElem_eq_getElem_data]
  simp only [strOfNums, List.getElem_toArray, List.getElem_map, UInt8.toNat_ofNat']
  omega
theorem str_extract (xs : List Int) (i : Nat) : (strOfNums xs).extract i (strOfNums xs).size = strOfNums (xs.drop i) := by
  apply ByteArray.ext
  rw [ByteArray.data_extract]
  show ((strOfNums xs).data.extract i (strOfNums xs).data.size) = _
  simp [strOfNums, List.map_drop]
  exact List.take_of_length_le (by simp)
/-! a word turned -/
def rotl1 (x : Int) : Int := (2 * x) % 4294967296 + x / 2147483648
def rotr1 (x : Int) : Int := x / 2 + (x % 2) * 2147483648
def itl : Nat → Int → Int
  | 0, x => x
  | n + 1, x => rotl1 (itl n x)
def U32 (x : Int) : Prop := 0 ≤ x ∧ x < 4294967296
theorem rotl1_u (x : Int) (h : U32 x) : U32 (rotl1 x) := by unfold U32 rotl1 at *; omega
theorem rotr1_u (x : Int) (h : U32 x) : U32 (rotr1 x) := by unfold U32 rotr1 at *; omega
theorem rot_lr (x : Int) (h : U32 x) : rotl1 (rotr1 x) = x := by
  unfold U32 rotl1 rotr1 at *
  rcases (show x % 2 = 0 ∨ x % 2 = 1 by omega) with e | e <;> (rw [e]; omega)
theorem rot_rl (x : Int) (h : U32 x) : rotr1 (rotl1 x) = x := by
  unfold U32 rotl1 rotr1 at *
  rcases (show x / 2147483648 = 0 ∨ x / 2147483648 = 1 by omega) with e | e <;> (rw [e]; omega)
theorem rsplit (x Q : Int) (hQ : 0 < Q) (hx : 0 ≤ x) : ∃ hi b l : Int, x = hi * (2 * Q) + b * Q + l ∧ 0 ≤ hi ∧ 0 ≤ l ∧ l < Q ∧ (b = 0 ∨ b = 1) := by
  refine ⟨x / (2 * Q), (x % (2 * Q)) / Q, (x % (2 * Q)) % Q, ?_, Int.ediv_nonneg hx (by omega), Int.emod_nonneg _ (by omega), Int.emod_lt_of_pos _ hQ, ?_⟩
  · have h1 := Int.mul_ediv_add_emod x (2 * Q)
    have h2 := Int.mul_ediv_add_emod (x % (2 * Q)) Q
    rw [Int.mul_comm (x / (2 * Q)) (2 * Q), Int.mul_comm ((x % (2 * Q)) / Q) Q]
    omega
  · have h1 := Int.emod_lt_of_pos x (show 0 < 2 * Q by omega)
    have h3 := Int.emod_nonneg x (show 2 * Q ≠ 0 by omega)
    have h0 : 0 ≤ (x % (2 * Q)) / Q := Int.ediv_nonneg h3 (by omega)
    have h2 : (x % (2 * Q)) / Q < 2 := Int.ediv_lt_of_lt_mul hQ h1
    omega
theorem itl_u : ∀ (n : Nat) (x : Int), U32 x → U32 (itl n x)
  | 0, _, h => h
  | n + 1, x, h => rotl1_u _ (itl_u n x h)
theorem itl_add : ∀ (m n : Nat) (x : Int), itl (m + n) x = itl m (itl n x)
  | 0, n, x => by rw [Nat.zero_add]; rfl
  | m + 1, n, x => by rw [show m + 1 + n = (m + n) + 1 by omega]; simp only [itl]; rw [itl_add m n x]
theorem rot_step (x : Int) (h : U32 x) : ∀ s : Nat, s < 31 → rotl1 ((x * 2 ^ s) % 4294967296 + x / 2 ^ (32 - s)) = (x * 2 ^ (s + 1)) % 4294967296 + x / 2 ^ (32 - (s + 1)) := by
  intro s hs
  unfold U32 at h
  have hc : s = 0 ∨ s = 1 ∨ s = 2 ∨ s = 3 ∨ s = 4 ∨ s = 5 ∨ s = 6 ∨ s = 7 ∨ s = 8 ∨ s = 9 ∨ s = 10 ∨ s = 11 ∨ s = 12 ∨ s = 13 ∨ s = 14 ∨ s = 15 ∨ s = 16 ∨ s = 17 ∨ s = 18 ∨ s = 19 ∨ s = 20 ∨ s = 21 ∨ s = 22 ∨ s = 23 ∨ s = 24 ∨ s = 25 ∨ s = 26 ∨ s = 27 ∨ s = 28 ∨ s = 29 ∨ s = 30 := by omega
  obtain ⟨hi, b, l, e, h1, h2, h3, hb⟩ := rsplit x (2 ^ (31 - s)) (Int.pow_pos (by omega)) h.1
  have d1 : x / 2 ^ (32 - s) = hi := by
    rcases hc with rfl | rfl | rfl | rfl | rfl | rfl | rfl | rfl | rfl | rfl | rfl | rfl | rfl | rfl | rfl | rfl | rfl | rfl | rfl | rfl | rfl | rfl | rfl | rfl | rfl | rfl | rfl | rfl | rfl | rfl | rfl <;> rcases hb with rfl | rfl <;> (simp only [Nat.reduceAdd, Nat.reduceSub, Int.reducePow] at e h3 ⊢; subst e; omega)
  have d2 : x / 2 ^ (32 - (s + 1)) = 2 * hi + b := by
    rcases hc with rfl | rfl | rfl | rfl | rfl | rfl | rfl | rfl | rfl | rfl | rfl | rfl | rfl | rfl | rfl | rfl | rfl | rfl | rfl | rfl | rfl | rfl | rfl | rfl | rfl | rfl | rfl | rfl | rfl | rfl | rfl <;> rcases hb with rfl | rfl <;> (simp only [Nat.reduceAdd, Nat.reduceSub, Int.reducePow] at e h3 ⊢; subst e; omega)
  have d3 : (x * 2 ^ s) % 4294967296 = b * 2147483648 + l * 2 ^ s := by
    rcases hc with rfl | rfl | rfl | rfl | rfl | rfl | rfl | rfl | rfl | rfl | rfl | rfl | rfl | rfl | rfl | rfl | rfl | rfl | rfl | rfl | rfl | rfl | rfl | rfl | rfl | rfl | rfl | rfl | rfl | rfl | rfl <;> rcases hb with rfl | rfl <;> (simp only [Nat.reduceAdd, Nat.reduceSub, Int.reducePow] at e h3 ⊢; subst e; omega)
  have d4 : (x * 2 ^ (s + 1)) % 4294967296 = l * 2 ^ s * 2 := by
    rcases hc with rfl | rfl | rfl | rfl | rfl | rfl | rfl | rfl | rfl | rfl | rfl | rfl | rfl | rfl | rfl | rfl | rfl | rfl | rfl | rfl | rfl | rfl | rfl | rfl | rfl | rfl | rfl | rfl | rfl | rfl | rfl <;> rcases hb with rfl | rfl <;> (simp only [Nat.reduceAdd, Nat.reduceSub, Int.reducePow] at e h3 ⊢; subst e; omega)
  have d5 : 0 ≤ hi + l * 2 ^ s ∧ hi + l * 2 ^ s < 2147483648 := by
    rcases hc with rfl | rfl | rfl | rfl | rfl | rfl | rfl | rfl | rfl | rfl | rfl | rfl | rfl | rfl | rfl | rfl | rfl | rfl | rfl | rfl | rfl | rfl | rfl | rfl | rfl | rfl | rfl | rfl | rfl | rfl | rfl <;> rcases hb with rfl | rfl <;> (simp only [Nat.reduceAdd, Nat.reduceSub, Int.reducePow] at e h3 ⊢; subst e; omega)
  rw [d1, d2, d3, d4]
  clear d1 d2 d3 d4 hc e h3
  generalize l * 2 ^ s = m at *
  unfold rotl1
  rcases hb with rfl | rfl <;> omega
theorem itl_form (x : Int) (h : U32 x) : ∀ s : Nat, s < 32 → itl s x = (x * 2 ^ s) % 4294967296 + x / 2 ^ (32 - s)
  | 0, _ => by unfold U32 at h; simp only [itl, Nat.sub_zero, Int.reducePow]; omega
  | s + 1, hs => by
    simp only [itl]
    rw [itl_form x h s (by omega)]
    exact rot_step x h s (by omega)
theorem itl_32 (x : Int) (h : U32 x) : itl 32 x = x := by
  show rotl1 (itl 31 x) = x
  rw [itl_form x h 31 (by omega)]
  unfold U32 at h
  unfold rotl1
  simp only [Nat.reduceSub, Int.reducePow]
  rcases (show x % 2 = 0 ∨ x % 2 = 1 by omega) with e | e <;> omega
theorem itl_mod (x : Int) (h : U32 x) (n : Nat) : itl n x = itl (n % 32) x := by
  have key : ∀ q r : Nat, itl (32 * q + r) x = itl r x := by
    intro q
    induction q with
    | zero => intro r; rw [Nat.mul_zero, Nat.zero_add]
    | succ q ih => intro r; rw [show 32 * (q + 1) + r = 32 + (32 * q + r) by omega, itl_add 32, itl_32 _ (itl_u _ x h), ih r]
  have h2 := key (n / 32) (n % 32)
  rwa [Nat.div_add_mod] at h2
theorem tmod_form (n b : Int) (hb : 0 < b) : ∃ q, n = b * q + Int.tmod n b ∧ -b < Int.tmod n b ∧ Int.tmod n b < b := by
  refine ⟨Int.tdiv n b, (Int.mul_tdiv_add_tmod n b).symm, ?_, Int.tmod_lt_of_pos n hb⟩
  have h := Int.tmod_lt_of_pos (-n) hb
  rw [Int.neg_tmod] at h
  omega
theorem u64_and31 (a : Int) : Go.bits .and .u64 (IntKind.u64.wrap a) 31 = a % 32 := by
  have h := bits_mask .u64 64 (by decide) wraps_u64 5 (by decide) (a % 18446744073709551616) (by omega) (by omega)
  rw [u64w]
  have e : ((2 : Int) ^ 5 - 1) = 31 := by decide
  have e2 : ((2 : Int) ^ 5) = 32 := by decide
  rw [e, e2] at h
  rw [h]; omega
theorem rotate_f (x a : Int) (h : U32 x) : bits_RotateLeft32.f x a = some (itl (a % 32).toNat x) := by
  obtain ⟨s, hs⟩ : ∃ s : Nat, a % 32 = (s : Int) := ⟨(a % 32).toNat, by omega⟩
  have hlt : s < 32 := by omega
  unfold bits_RotateLeft32.f
  rw [u64_and31, hs, if_pos (by omega), u64w, show (32 - (s : Int)) % 18446744073709551616 = ((32 - s : Nat) : Int) by omega, if_pos (by omega), Int.toNat_natCast, itl_form x h s hlt]
  have e1 : shl .u32 x (s : Int) = (x * 2 ^ s) % 4294967296 := by
    unfold shl; rw [Int.toNat_natCast, IntKind.wrap_u32, show min s IntKind.u32.bits = s from Nat.min_eq_left (Nat.le_of_lt hlt)]
  have e2 : shr .u32 x ((32 - s : Nat) : Int) = x / 2 ^ (32 - s) := by
    unfold shr; rw [Int.toNat_natCast, show min (32 - s) IntKind.u32.bits = 32 - s from Nat.min_eq_left (Nat.sub_le _ _)]
  rw [e1, e2]
  have hp : (0 : Int) < 2 ^ (32 - s) := Int.pow_pos (by omega)
  have hq : (0 : Int) < 2 ^ s := Int.pow_pos (by omega)
  have hpq : (2 : Int) ^ s * 2 ^ (32 - s) = 4294967296 := by
    rw [← Int.pow_add, show s + (32 - s) = 32 by omega]; rfl
  have hlt2 : x / 2 ^ (32 - s) < 2 ^ s := by
    refine Int.ediv_lt_of_lt_mul hp ?_
    rw [hpq]; exact h.2
  have h0 : 0 ≤ x / 2 ^ (32 - s) := Int.ediv_nonneg h.1 (by omega)
  have hle : x / 2 ^ (32 - s) ≤ x := Int.ediv_le_self _ h.1
  have hm : ((x * 2 ^ s) % 4294967296) % 2 ^ s = 0 := by
    rw [Int.emod_emod_of_dvd _ ⟨2 ^ (32 - s), hpq.symm⟩, Int.mul_emod_left]
  unfold U32 at h
  rw [bits_join .u32 32 (by decide) wraps_u32 s _ _ (by omega) hm (by omega) h0 hlt2 (by omega)]
theorem rot_f (x n : Int) (h : U32 x) : word_Rot.f x n = some (itl ((-n) % 32).toNat x) := by
  obtain ⟨q, h1, h2, h3⟩ := tmod_form n 32 (by omega)
  unfold word_Rot.f
  rw [wrap64_id (by omega) (by omega), rotate_f _ _ h]
  simp only [Option.bind_some]
  rw [show (-Int.tmod n 32) % 32 = (-n) % 32 by omega]

theorem awake1 : wristbandlaw01_awake.f 200 = some true := by
  unfold wristbandlaw01_awake.f
  simp only [toList_data]
  decide +kernel
theorem awake1_at (k : Nat) (hk : 200 ≤ k) : wristbandlaw01_awake.f k = some true := at_rounds wristbandlaw01_awake.mono hk awake1
theorem WordTurns : wristbandlaw01_WordTurns.Pure := by
  intro x m n h0 _ _
  have hx : U32 x := by have := bounds_u32 h0; unfold U32; omega
  refine ⟨200, ?_⟩
  unfold wristbandlaw01_WordTurns.f
  rw [awake1_at _ (by omega)]
  simp only [Option.bind_some, if_true]
  obtain ⟨_, _, hm1, hm2⟩ := tmod_form m 1000000 (by omega)
  obtain ⟨_, _, hn1, hn2⟩ := tmod_form n 1000000 (by omega)
  generalize Int.tmod m 1000000 = a at *
  generalize Int.tmod n 1000000 = b at *
  have hw1 : -9223372036854775808 ≤ a + b := by omega
  have hw2 : a + b ≤ 9223372036854775807 := by omega
  have hw3 : -9223372036854775808 ≤ -b := by omega
  have hw4 : -b ≤ 9223372036854775807 := by omega
  have e1 : itl ((-b) % 32).toNat (itl ((-a) % 32).toNat x) = itl ((-(a + b)) % 32).toNat x := by
    rw [← itl_add, itl_mod x hx, show (((-b) % 32).toNat + ((-a) % 32).toNat) % 32 = ((-(a + b)) % 32).toNat by omega]
  have e2 : itl ((-(-b)) % 32).toNat (itl ((-b) % 32).toNat x) = x := by
    rw [← itl_add, itl_mod x hx, show (((-(-b)) % 32).toNat + ((-b) % 32).toNat) % 32 = 0 by omega]; rfl
  have e3 : itl ((-(0 : Int)) % 32).toNat x = x := rfl
  have e4 : itl ((-(32 : Int)) % 32).toNat x = x := rfl
  simp only [rot_f x _ hx, rot_f _ _ (itl_u _ x hx), Option.bind_some, wrap64_id hw1 hw2, wrap64_id hw3 hw4, e1, e2, e3, e4, if_true, beq_self_eq_true]

end Go.Proofs.Ytnpkhkhlofkbhaa.Pure
