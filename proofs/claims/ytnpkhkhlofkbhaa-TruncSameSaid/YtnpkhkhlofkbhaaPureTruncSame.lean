/- TruncSame: for every input the law answers true: tags are the same just if their bytes are; turned at one place they are unlike at one; unlike is symmetric, bounded and obeys the triangle. No condition. -/
import Derived.Test.YtnpkhkhlofkbhaaPTruncSamex3
import Derived.OpenShut
set_option linter.unusedVariables false
set_option linter.unusedSimpArgs false
namespace Go.Proofs.Ytnpkhkhlofkbhaa.Pure
open Go.RowKit Go.Proofs.Ytnpkhkhlofkbhaa.PTruncSame Go.Proofs.YtnpkhkhlofkbhaaW.PrintWords Go.Proofs.YtnpkhkhlofkbhaaW.PrintLast Go.Proofs.YtnpkhkhlofkbhaaW.PrintMore

theorem wrap64_id {n : Int} (h0 : -9223372036854775808 ≤ n) (h1 : n ≤ 9223372036854775807) : wrap64 n = n := by unfold wrap64; omega
theorem ex_succ {k n : Nat} (h : n < k) : ∃ m, k = m + 1 := ⟨k - 1, by omega⟩
def Bytes (l : List Int) : Prop := ∀ x ∈ l, 0 ≤ x ∧ x ≤ 255
theorem bytes_of {l : List Int} (h : ∀ x ∈ l, (Lit.int .u8 x).wf = true) : Bytes l := fun x hx => bounds_u8 (h x hx)
theorem rd_at {l : List Int} (i : Nat) (h : i < l.length) : rd l (i : Int) = l[i] := by
  unfold rd
  simp [List.getD_eq_getElem?_getD, List.getElem?_eq_getElem h]
theorem rd_bytes {l : List Int} (h : Bytes l) (i : Int) : 0 ≤ rd l i ∧ rd l i ≤ 255 := by
  unfold rd
  rw [List.getD_eq_getElem?_getD]
  rcases Nat.lt_or_ge i.toNat l.length with hl | hl
  · rw [List.getElem?_eq_getElem hl]; exact h _ (List.getElem_mem hl)
  · rw [List.getElem?_eq_none hl]; simp
theorem Bytes.take {l : List Int} (h : Bytes l) (n : Nat) : Bytes (l.take n) := fun x hx => h x (List.mem_of_mem_take hx)
theorem Bytes.drop {l : List Int} (h : Bytes l) (n : Nat) : Bytes (l.drop n) := fun x hx => h x (List.mem_of_mem_drop hx)
theorem Bytes.cons {a : Int} {l : List Int} (h : Bytes (a :: l)) : (0 ≤ a ∧ a ≤ 255) ∧ Bytes l := ⟨h a (by simp), fun x hx => h x (by simp [hx])⟩
theorem u64w (n : Int) : IntKind.u64.wrap n = n % 18446744073709551616 := by simp [IntKind.wrap, IntKind.bits, IntKind.signed]
theorem wraps_u64 (n : Int) (h₀ : 0 ≤ n) (h₁ : n < 2 ^ 64) : IntKind.u64.wrap n = n := by rw [u64w]; omega
theorem wraps_u32 (n : Int) (h₀ : 0 ≤ n) (h₁ : n < 2 ^ 32) : IntKind.u32.wrap n = n := by rw [IntKind.wrap_u32]; omega
theorem tmod_nn {a b : Int} (h : 0 ≤ a) : Int.tmod a b = a % b := Int.tmod_eq_emod_of_nonneg h
theorem tdiv_nn {a b : Int} (h : 0 ≤ a) : Int.tdiv a b = a / b := Int.tdiv_eq_ediv_of_nonneg h
theorem u32_mask31 (x : Int) (h0 : 0 ≤ x) (h1 : x < 4294967296) : Go.bits .and .u32 x 2147483647 = x % 2147483648 :=
  bits_mask .u32 32 (by decide) wraps_u32 31 (by decide) x h0 h1
/-! numbers of bytes -/
def vs (v x : Int) : Int := (v * 256) % 18446744073709551616 + x
def val (l : List Int) : Int := l.foldl vs 0
theorem or_step (v x : Int) (h0 : 0 ≤ x) (h1 : x ≤ 255) : Go.bits .or .u64 (IntKind.u64.wrap (v * 256)) (IntKind.u64.wrap x) = vs v x := by
  rw [u64w, u64w, show x % 18446744073709551616 = x by omega]
  exact bits_join .u64 64 (by decide) wraps_u64 8 _ x (by omega) (by omega) (by omega) h0 (by omega) (by omega)
theorem add_step (v x : Int) (h0 : 0 ≤ x) (h1 : x ≤ 255) : IntKind.u64.wrap (IntKind.u64.wrap (256 * v) + IntKind.u64.wrap x) = vs v x := by
  rw [u64w, u64w, u64w]; unfold vs; omega
theorem vs_range (v x : Int) (h0 : 0 ≤ x) (h1 : x ≤ 255) : 0 ≤ vs v x ∧ vs v x < 18446744073709551616 := by unfold vs; omega
theorem foldl_range : ∀ (l : List Int) (v : Int), Bytes l → 0 ≤ v → v < 18446744073709551616 → 0 ≤ l.foldl vs v ∧ l.foldl vs v < 18446744073709551616
  | [], v, _, h0, h1 => ⟨h0, h1⟩
  | a :: l, v, hb, _, _ => by
    have h := vs_range v a hb.cons.1.1 hb.cons.1.2
    exact foldl_range l _ hb.cons.2 h.1 h.2
theorem val_range {l : List Int} (hb : Bytes l) : 0 ≤ val l ∧ val l < 18446744073709551616 := foldl_range l 0 hb (by omega) (by omega)
theorem value_l0 (l : List Int) (hb : Bytes l) (hl : l.length ≤ 9223372036854775806) : ∀ (d k : Nat) (v : Int) (i : Nat), i + d = l.length → d < k → word_value.l0 k v l (l.length : Int) (i : Int) = some ((l.drop i).foldl vs v) := by
  intro d
  induction d with
  | zero =>
    intro k v i hi hk
    obtain ⟨k, rfl⟩ := ex_succ hk
    simp only [word_value.l0]
    rw [if_neg (by omega), List.drop_eq_nil_of_le (by omega)]; rfl
  | succ d ih =>
    intro k v i hi hk
    obtain ⟨k, rfl⟩ := ex_succ hk
    have hlt : i < l.length := by omega
    simp only [word_value.l0]
    rw [if_pos (by omega), if_pos (by omega), if_pos (by omega), or_step _ _ (rd_bytes hb _).1 (rd_bytes hb _).2, wrap64_id (by omega) (by omega), show ((i : Int) + 1) = ((i + 1 : Nat) : Int) by omega, ih k _ (i + 1) (by omega) (by omega), rd_at i hlt, List.drop_eq_getElem_cons hlt]
    rfl
theorem value_f (l : List Int) (hb : Bytes l) (hl : l.length ≤ 9223372036854775806) (k : Nat) (hk : l.length < k) : word_value.f k l = some (val l) := by
  unfold word_value.f
  rw [show (0 : Int) = ((0 : Nat) : Int) from rfl, value_l0 l hb hl l.length k _ 0 (by omega) hk]; rfl
/-! words -/
def wordsOf : List Int → List Int
  | a :: b :: c :: d :: t => (val [a, b, c, d] % 4294967296) :: wordsOf t
  | _ => []
theorem words_l0 : ∀ (n : Nat) (l : List Int), l.length ≤ n → Bytes l → ∀ (k : Nat) (out : List Int), l.length + 6 ≤ k → out.length + l.length < 35184372088832 → word_Words.l0 k l out = some (out ++ wordsOf l) := by
  intro n
  induction n with
  | zero =>
    intro l hn hb k out hk ho
    obtain ⟨k, rfl⟩ := ex_succ (show 0 < k by omega)
    obtain rfl : l = [] := List.eq_nil_of_length_eq_zero (by omega)
    simp [word_Words.l0, wordsOf]
  | succ n ih =>
    intro l hn hb k out hk ho
    obtain ⟨k, rfl⟩ := ex_succ (show 0 < k by omega)
    by_cases h4 : 4 ≤ l.length
    · match l, h4, hb, hn, hk, ho with
      | a :: b :: c :: d :: t, h4, hb, hn, hk, ho =>
        simp only [List.length_cons] at hn hk ho
        have hbt : Bytes t := hb.cons.2.cons.2.cons.2.cons.2
        have hb4 : Bytes [a, b, c, d] := hb.take 4
        simp only [word_Words.l0]
        rw [if_pos (by simp only [List.length_cons]; omega), if_pos (by simp only [List.length_cons]; omega), show (a :: b :: c :: d :: t).take 4 = [a, b, c, d] from rfl, value_f _ hb4 (by simp) k (by simp only [List.length_cons, List.length_nil]; omega)]
        simp only [Option.bind_some]
        rw [if_pos (by omega), show (a :: b :: c :: d :: t).drop 4 = t from rfl, ih t (by omega) hbt k _ (by omega) (by simp only [List.length_append, List.length_cons, List.length_nil]; omega)]
        simp [wordsOf]
    · have hw : wordsOf l = [] := by
        match l, h4 with
        | [], _ => rfl
        | [_], _ => rfl
        | [_, _], _ => rfl
        | [_, _, _], _ => rfl
        | _ :: _ :: _ :: _ :: t, h => simp at h
      simp only [word_Words.l0]
      rw [if_neg (by omega), hw, List.append_nil]
theorem words_f (l : List Int) (hb : Bytes l) (k : Nat) (hk : l.length + 6 ≤ k) (hl : l.length < 35184372088832) : word_Words.f k l = some (wordsOf l) := by
  unfold word_Words.f
  rw [words_l0 l.length l (Nat.le_refl _) hb k [] hk (by simpa using hl)]; simp
/-! codes -/
def atOf (l : List Int) : Nat := (rd l ((l.length : Int) - 1) % 16).toNat
def codeOf (l : List Int) : Int := val ((l.take (atOf l + 4)).drop (atOf l)) % 2147483648
theorem cut4 (l : List Int) (i : Nat) (h : i + 4 ≤ l.length) : ∃ a b c d, (l.take (i + 4)).drop i = [a, b, c, d] := by
  have hl : ((l.take (i + 4)).drop i).length = 4 := by simp; omega
  match (l.take (i + 4)).drop i, hl with
  | [a, b, c, d], _ => exact ⟨a, b, c, d, rfl⟩
theorem code_short (l : List Int) (h : l.length < 19) (k : Nat) : trunc_Code.f k l = some (0, 2) := by
  unfold trunc_Code.f; rw [if_pos (by omega)]
theorem code_long (l : List Int) (hb : Bytes l) (h : 19 ≤ l.length) (hl : l.length ≤ 9223372036854775806) (k : Nat) (hk : 10 ≤ k) : trunc_Code.f k l = some (codeOf l, 0) := by
  have hr := rd_bytes hb ((l.length : Int) - 1)
  have ha : ((atOf l : Nat) : Int) = rd l ((l.length : Int) - 1) % 16 := by unfold atOf; omega
  have ha15 : atOf l ≤ 15 := by omega
  have e15 : Go.bits .and .u8 (rd l ((l.length : Int) - 1)) 15 = (atOf l : Int) := by rw [u8_and15 _ hr.1 (by omega), ha]
  obtain ⟨a, b, c, d, hc⟩ := cut4 l (atOf l) (by omega)
  have hb4 : Bytes [a, b, c, d] := by rw [← hc]; exact (hb.take _).drop _
  have hv := val_range hb4
  unfold trunc_Code.f
  rw [if_neg (by omega), wrap64_id (n := (l.length : Int) - 1) (by omega) (by omega), if_pos (by omega), if_pos (by omega), e15, wrap64_id (n := (atOf l : Int)) (by omega) (by omega), if_pos (by omega), wrap64_id (n := (atOf l : Int) + 4) (by omega) (by omega), if_pos (by omega), if_pos (by omega),
    show ((atOf l : Int) + 4).toNat = atOf l + 4 by omega, Int.toNat_natCast, hc, words_f _ hb4 k (by simp only [List.length_cons, List.length_nil]; omega) (by simp)]
  simp only [Option.bind_some, wordsOf]
  rw [if_pos (by simp)]
  have e0 : rd [val [a, b, c, d] % 4294967296] 0 = val [a, b, c, d] % 4294967296 := rfl
  rw [e0, u32_mask31 _ (by omega) (by omega)]
  unfold codeOf; rw [hc]
  simp only [Option.some.injEq, Prod.mk.injEq, and_true]
  omega
theorem codeOf_range (l : List Int) : 0 ≤ codeOf l ∧ codeOf l < 2147483648 := by unfold codeOf; omega
/-! digits -/
def digs : Nat → Int → List Int
  | 0, _ => []
  | n + 1, c => digs n (c / 10) ++ [48 + c % 10]
theorem digs_length : ∀ (n : Nat) (c : Int), (digs n c).length = n
  | 0, _ => rfl
  | n + 1, c => by simp [digs, digs_length n]
theorem digs_range : ∀ (n : Nat) (c : Int), ∀ x ∈ digs n c, 48 ≤ x ∧ x ≤ 57
  | 0, _, x, h => by simp [digs] at h
  | n + 1, c, x, h => by
    simp only [digs, List.mem_append, List.mem_singleton] at h
    rcases h with h | rfl
    · exact digs_range n _ x h
    · omega
theorem drop_set (b : List Int) (j : Nat) (x : Int) (h : j < b.length) : (b.set j x).drop j = x :: b.drop (j + 1) := by
  rw [List.drop_eq_getElem_cons (by simpa using h)]
  simp [List.drop_set]
theorem digit_at (c : Int) (h0 : 0 ≤ c) : (48 + ((Int.tmod c 10) % 256)) % 256 = 48 + c % 10 := by rw [tmod_nn h0]; omega
theorem digits_l0 : ∀ (j k : Nat) (c : Int) (b : List Int), 0 ≤ c → c < 4294967296 → j ≤ b.length → b.length ≤ 100 → j < k → trunc_Digits.l0 k c b ((j : Int) - 1) = some (strOfNums (digs j c ++ b.drop j), 0) := by
  intro j
  induction j with
  | zero =>
    intro k c b h0 h1 hj hb hk
    obtain ⟨k, rfl⟩ := ex_succ hk
    simp only [trunc_Digits.l0]
    rw [if_neg (by omega)]
    simp [digs]
  | succ j ih =>
    intro k c b h0 h1 hj hb hk
    obtain ⟨k, rfl⟩ := ex_succ hk
    simp only [trunc_Digits.l0]
    rw [if_pos (by omega), if_pos (by omega), if_pos (by omega), digit_at c h0, tdiv_nn h0, show (c / 10) % 4294967296 = c / 10 by omega, show (((j + 1 : Nat) : Int) - 1).toNat = j by omega, wrap64_id (by omega) (by omega), show ((j + 1 : Nat) : Int) - 1 - 1 = (j : Int) - 1 by omega,
      ih k _ _ (by omega) (by omega) (by simp; omega) (by simpa using hb) (by omega), drop_set b j _ (by omega)]
    simp [digs]
theorem digits_ok (c n : Int) (h0 : 0 ≤ c) (h1 : c < 4294967296) (hn1 : 1 ≤ n) (hn9 : n ≤ 9) (k : Nat) (hk : 15 ≤ k) : trunc_Digits.f k c n = some (strOfNums (digs n.toNat c), 0) := by
  obtain ⟨k, rfl⟩ := ex_succ (show 0 < k by omega)
  obtain ⟨m, rfl⟩ := Int.eq_ofNat_of_zero_le (show 0 ≤ n by omega)
  unfold trunc_Digits.f
  rw [if_neg (by omega)]
  simp only [trunc_Digits.j0, Int.toNat_natCast]
  rw [if_neg (by simp; omega), if_pos (by omega), if_pos (by omega), wrap64_id (by omega) (by omega), digits_l0 m k c _ h0 h1 (by simp) (by simp; omega) (by omega)]
  simp
theorem digits_no (c n : Int) (h : n < 1 ∨ 9 < n) (k : Nat) (hk : 1 ≤ k) : trunc_Digits.f k c n = some ((⟨#[]⟩ : ByteArray), 1) := by
  obtain ⟨k, rfl⟩ := ex_succ (show 0 < k by omega)
  unfold trunc_Digits.f
  by_cases h1 : n < 1
  · rw [if_pos h1]; simp [trunc_Digits.j0]
  · rw [if_neg h1]
    have : decide (n > 9) = true := by simp; omega
    rw [this]; simp [trunc_Digits.j0]
/-! unlike -/
def dif : List Int → List Int → Nat
  | x :: a, y :: b => (if x = y then 0 else 1) + dif a b
  | _, _ => 0
def unl (a b : List Int) : Nat := (max a.length b.length - min a.length b.length) + dif a b
theorem dif_nil_left (b : List Int) : dif [] b = 0 := by unfold dif; rfl
theorem dif_nil_right (a : List Int) : dif a [] = 0 := by cases a <;> rfl
theorem dif_le : ∀ (a b : List Int), dif a b ≤ min a.length b.length
  | [], b => by simp [dif_nil_left]
  | _ :: _, [] => by simp [dif]
  | x :: a, y :: b => by
    have := dif_le a b
    simp only [dif, List.length_cons]
    split <;> omega
theorem xor_step (x y : Int) (hx : 0 ≤ x ∧ x ≤ 255) (hy : 0 ≤ y ∧ y ≤ 255) : ((((Go.bits .xor .u8 x y) % 4294967296) + 255) % 4294967296) / 256 = if x = y then 0 else 1 := by
  rw [u8_xor x y hx.1 (by omega) hy.1 (by omega)]
  have hlt : x.toNat ^^^ y.toNat < 2 ^ 8 := Nat.xor_lt_two_pow (by omega) (by omega)
  by_cases e : x = y
  · subst e; rw [if_pos rfl, Nat.xor_self]; rfl
  · rw [if_neg e]
    have hne : x.toNat ^^^ y.toNat ≠ 0 := by
      intro h0
      have h2 : (x.toNat ^^^ y.toNat) ^^^ y.toNat = x.toNat := by rw [Nat.xor_assoc, Nat.xor_self, Nat.xor_zero]
      rw [h0, Nat.zero_xor] at h2
      omega
    omega
theorem mx_eq (a b : Nat) : mx (a : Int) (b : Int) = ((max a b : Nat) : Int) := by unfold mx; split <;> omega
theorem mn_eq (a b : Nat) : mn (a : Int) (b : Int) = ((min a b : Nat) : Int) := by unfold mn; split <;> omega
theorem unlike_l0 (a b : List Int) (ha : Bytes a) (hb : Bytes b) (hla : a.length ≤ 1000000) (hlb : b.length ≤ 1000000) :
    ∀ (d k : Nat) (n i : Nat), i + d = min a.length b.length → d < k → n ≤ 2000000 + i → trunc_Unlike.l0 k a b (n : Int) ((min a.length b.length : Nat) : Int) (i : Int) = some ((n + dif (a.drop i) (b.drop i) : Nat) : Int) := by
  intro d
  induction d with
  | zero =>
    intro k n i hi hk hn
    obtain ⟨k, rfl⟩ := ex_succ hk
    simp only [trunc_Unlike.l0]
    rw [if_neg (by omega)]
    have : dif (a.drop i) (b.drop i) = 0 := by
      rcases Nat.le_total a.length b.length with h | h
      · rw [show a.drop i = [] from List.drop_eq_nil_of_le (by omega), dif_nil_left]
      · rw [show b.drop i = [] from List.drop_eq_nil_of_le (by omega), dif_nil_right]
    rw [this]; rfl
  | succ d ih =>
    intro k n i hi hk hn
    obtain ⟨k, rfl⟩ := ex_succ hk
    have h1 : i < a.length := by omega
    have h2 : i < b.length := by omega
    simp only [trunc_Unlike.l0]
    rw [if_pos (by omega), if_pos (by omega), if_pos (by omega), if_pos (by omega), xor_step _ _ (rd_bytes ha _) (rd_bytes hb _), rd_at i h1, rd_at i h2, List.drop_eq_getElem_cons h1, List.drop_eq_getElem_cons h2, wrap64_id (n := (i : Int) + 1) (by omega) (by omega), show ((i : Int) + 1) = ((i + 1 : Nat) : Int) by omega]
    simp only [dif]
    by_cases e : a[i] = b[i]
    · rw [if_pos e, if_pos e, wrap64_id (by omega) (by omega), Int.add_zero, ih k n (i + 1) (by omega) (by omega) (by omega), Nat.zero_add]
    · rw [if_neg e, if_neg e, wrap64_id (by omega) (by omega), show ((n : Int) + 1) = ((n + 1 : Nat) : Int) by omega, ih k (n + 1) (i + 1) (by omega) (by omega) (by omega), Nat.add_assoc]
theorem unlike_f (a b : List Int) (ha : Bytes a) (hb : Bytes b) (hla : a.length ≤ 1000000) (hlb : b.length ≤ 1000000) (k : Nat) (hk : min a.length b.length < k) : trunc_Unlike.f k a b = some ((unl a b : Nat) : Int) := by
  unfold trunc_Unlike.f
  rw [mx_eq, mn_eq, wrap64_id (by omega) (by omega), show (((max a.length b.length : Nat) : Int) - ((min a.length b.length : Nat) : Int)) = ((max a.length b.length - min a.length b.length : Nat) : Int) by omega,
    show (0 : Int) = ((0 : Nat) : Int) from rfl, unlike_l0 a b ha hb hla hlb _ k _ 0 (by omega) hk (by omega)]
  rfl
theorem same_f (a b : List Int) (ha : Bytes a) (hb : Bytes b) (hla : a.length ≤ 1000000) (hlb : b.length ≤ 1000000) (k : Nat) (hk : min a.length b.length < k) : trunc_Same.f k a b = some (((unl a b : Nat) : Int) == 0) := by
  unfold trunc_Same.f
  rw [unlike_f a b ha hb hla hlb k hk]; rfl
/-! strings of bytes -/
theorem toList_loop (b : ByteArray) : ∀ (d i : Nat) (r : List UInt8), i + d = b.size → ByteArray.toList.loop b i r = r.reverse ++ b.data.toList.drop i := by
  intro d
  induction d with
  | zero =>
    intro i r h
    rw [ByteArray.toList.loop, if_neg (by omega), List.drop_eq_nil_of_le (by rw [Array.length_toList]; show b.size ≤ i; omega), List.append_nil]
  | succ d ih =>
    intro i r h
    have hlt : i < b.size := by omega
    have hl : i < b.data.toList.length := by rw [Array.length_toList]; exact hlt
    have hg : b.get! i = b.data.toList[i] := by
      show b.data[i]! = _
      rw [getElem!_pos b.data i hlt, Array.getElem_toList]
    rw [ByteArray.toList.loop, if_pos hlt, ih (i + 1) _ (by omega), List.drop_eq_getElem_cons hl, hg]
    simp
theorem toList_data (b : ByteArray) : b.toList = b.data.toList := by
  unfold ByteArray.toList
  rw [toList_loop b b.size 0 [] (by omega)]
  simp
theorem str_toList (xs : List Int) : (strOfNums xs).toList = xs.map fun n => UInt8.ofNat n.toNat := by
  rw [toList_data]; simp [strOfNums]
theorem ofNat_inj (a b : Int) (ha : 0 ≤ a ∧ a ≤ 255) (hb : 0 ≤ b ∧ b ≤ 255) (h : UInt8.ofNat a.toNat = UInt8.ofNat b.toNat) : a = b := by
  have h2 := congrArg UInt8.toNat h
  simp only [UInt8.toNat_ofNat'] at h2
  omega
theorem map_inj : ∀ (xs ys : List Int), Bytes xs → Bytes ys → (xs.map fun n => UInt8.ofNat n.toNat) = (ys.map fun n => UInt8.ofNat n.toNat) → xs = ys
  | [], [], _, _, _ => rfl
  | [], _ :: _, _, _, h => by simp at h
  | _ :: _, [], _, _, h => by simp at h
  | x :: xs, y :: ys, hx, hy, h => by
    simp only [List.map_cons, List.cons.injEq] at h
    rw [ofNat_inj x y hx.cons.1 hy.cons.1 h.1, map_inj xs ys hx.cons.2 hy.cons.2 h.2]
theorem str_inj (xs ys : List Int) (hx : Bytes xs) (hy : Bytes ys) : (strOfNums xs).toList = (strOfNums ys).toList ↔ xs = ys := by
  rw [str_toList, str_toList]
  exact ⟨map_inj xs ys hx hy, fun h => by rw [h]⟩
theorem str_beq (xs ys : List Int) (hx : Bytes xs) (hy : Bytes ys) : ((strOfNums xs).toList == (strOfNums ys).toList) = decide (xs = ys) := by
  by_cases h : xs = ys
  · subst h; simp
  · rw [decide_eq_false h, beq_eq_false_iff_ne]
    exact fun h2 => h ((str_inj xs ys hx hy).1 h2)
theorem str_size (xs : List Int) : (strOfNums xs).size = xs.length := by
  show (strOfNums xs).data.size = _
  simp [strOfNums]
theorem str_append (xs ys : List Int) : strOfNums (xs ++ ys) = strOfNums xs ++ strOfNums ys := by
  apply ByteArray.ext
  simp [strOfNums]
theorem str_bt (xs : List Int) (hx : Bytes xs) (i : Nat) (h : i < xs.length) : bt (strOfNums xs) (i : Int) = xs[i] := by
  have hs : i < (strOfNums xs).size := by rw [str_size]; exact h
  have hr := hx xs[i] (List.getElem_mem h)
  unfold bt
  simp only [Int.toNat_natCast]
  rw [dif_pos hs, ByteArray.getElem_eq_getElem_data]
  simp only [strOfNums, List.getElem_toArray, List.getElem_map, UInt8.toNat_ofNat']
  omega
theorem str_extract (xs : List Int) (i : Nat) : (strOfNums xs).extract i (strOfNums xs).size = strOfNums (xs.drop i) := by
  apply ByteArray.ext
  rw [ByteArray.data_extract]
  show ((strOfNums xs).data.extract i (strOfNums xs).data.size) = _
  simp [strOfNums, List.map_drop]
  exact List.take_of_length_le (by simp)
theorem awake4 : wristbandlaw04_awake.f 200 = some true := by
  unfold wristbandlaw04_awake.f
  simp only [toList_data]
  decide +kernel
theorem awake_at (k : Nat) (hk : 200 ≤ k) : wristbandlaw04_awake.f k = some true := at_rounds wristbandlaw04_awake.mono hk awake4
theorem dif_comm : ∀ (a b : List Int), dif a b = dif b a
  | [], b => by rw [dif_nil_left, dif_nil_right]
  | _ :: _, [] => by rw [dif_nil_left, dif_nil_right]
  | x :: a, y :: b => by
    simp only [dif]
    rw [dif_comm a b]
    by_cases e : x = y
    · rw [if_pos e, if_pos e.symm]
    · rw [if_neg e, if_neg (fun h => e h.symm)]
theorem unl_comm (a b : List Int) : unl a b = unl b a := by unfold unl; rw [dif_comm a b]; omega
theorem unl_le (a b : List Int) : unl a b ≤ max a.length b.length := by have := dif_le a b; unfold unl; omega
theorem dif_zero : ∀ (a b : List Int), a.length = b.length → dif a b = 0 → a = b
  | [], [], _, _ => rfl
  | [], _ :: _, h, _ => by simp at h
  | _ :: _, [], h, _ => by simp at h
  | x :: a, y :: b, h, h0 => by
    simp only [dif] at h0
    by_cases e : x = y
    · rw [if_pos e] at h0
      rw [e, dif_zero a b (by simpa using h) (by omega)]
    · rw [if_neg e] at h0; omega
theorem dif_self : ∀ (a : List Int), dif a a = 0
  | [] => rfl
  | x :: a => by simp [dif, dif_self a]
theorem unl_zero (a b : List Int) : unl a b = 0 ↔ a = b := by
  constructor
  · intro h
    unfold unl at h
    exact dif_zero a b (by omega) (by omega)
  · intro h; subst h; unfold unl; rw [dif_self]; omega
/-- The unlike places, counted one by one over both lists' ends. -/
def cnt : Nat → List Int → List Int → Nat
  | 0, _, _ => 0
  | n + 1, a, b => (if a.head? = b.head? then 0 else 1) + cnt n a.tail b.tail
theorem cnt_unl : ∀ (n : Nat) (a b : List Int), max a.length b.length ≤ n → cnt n a b = unl a b
  | 0, a, b, h => by
    obtain rfl : a = [] := List.eq_nil_of_length_eq_zero (by omega)
    obtain rfl : b = [] := List.eq_nil_of_length_eq_zero (by omega)
    rfl
  | n + 1, [], [], _ => by simp only [cnt, List.tail_nil]; rw [cnt_unl n [] [] (by simp)]; simp [unl, dif]
  | n + 1, [], y :: b, h => by
    simp only [List.length_cons, List.length_nil] at h
    simp only [cnt, List.tail_nil, List.tail_cons, List.head?_nil, List.head?_cons]
    rw [cnt_unl n [] b (by simp; omega)]
    simp [unl, dif_nil_left]; omega
  | n + 1, x :: a, [], h => by
    simp only [List.length_cons, List.length_nil] at h
    simp only [cnt, List.tail_nil, List.tail_cons, List.head?_nil, List.head?_cons]
    rw [cnt_unl n a [] (by simp; omega)]
    simp [unl, dif_nil_right]; omega
  | n + 1, x :: a, y :: b, h => by
    simp only [List.length_cons] at h
    simp only [cnt, List.tail_cons, List.head?_cons, Option.some.injEq]
    rw [cnt_unl n a b (by omega)]
    simp only [unl, dif, List.length_cons]
    omega
theorem cnt_tri : ∀ (n : Nat) (a b c : List Int), cnt n a c ≤ cnt n a b + cnt n b c
  | 0, _, _, _ => Nat.le_refl _
  | n + 1, a, b, c => by
    have h := cnt_tri n a.tail b.tail c.tail
    simp only [cnt]
    by_cases h1 : a.head? = b.head? <;> by_cases h2 : b.head? = c.head?
    · have h3 : a.head? = c.head? := h1.trans h2
      rw [if_pos h1, if_pos h2, if_pos h3]; omega
    · rw [if_pos h1, if_neg h2]; split <;> omega
    · rw [if_neg h1, if_pos h2]; split <;> omega
    · rw [if_neg h1, if_neg h2]; split <;> omega
theorem unl_tri (a b c : List Int) : unl a c ≤ unl a b + unl b c := by
  have h := cnt_tri (max a.length (max b.length c.length)) a b c
  rwa [cnt_unl _ a c (by omega), cnt_unl _ a b (by omega), cnt_unl _ b c (by omega)] at h
theorem dif_set : ∀ (a : List Int) (i : Nat) (v : Int) (h : i < a.length), a[i] ≠ v → dif a (a.set i v) = 1
  | x :: a, 0, v, _, hv => by
    simp only [List.getElem_cons_zero] at hv
    simp only [List.set_cons_zero, dif]
    rw [if_neg hv, dif_self]
  | x :: a, i + 1, v, h, hv => by
    simp only [List.getElem_cons_succ] at hv
    simp only [List.set_cons_succ, dif, if_true]
    rw [dif_set a i v (by simpa using h) hv]
theorem xor_ne (x y : Int) (hx : 0 ≤ x ∧ x ≤ 255) (hy : 0 ≤ y ∧ y ≤ 255) (h : y ≠ 0) : x ≠ Go.bits .xor .u8 x y ∧ 0 ≤ Go.bits .xor .u8 x y ∧ Go.bits .xor .u8 x y ≤ 255 := by
  rw [u8_xor x y hx.1 (by omega) hy.1 (by omega)]
  have hlt : x.toNat ^^^ y.toNat < 2 ^ 8 := Nat.xor_lt_two_pow (by omega) (by omega)
  refine ⟨fun e => ?_, by omega, by omega⟩
  have h1 : x.toNat ^^^ y.toNat = x.toNat := by omega
  have h2 : x.toNat ^^^ (x.toNat ^^^ y.toNat) = y.toNat := by rw [← Nat.xor_assoc, Nat.xor_self, Nat.zero_xor]
  rw [h1, Nat.xor_self] at h2
  omega
theorem Bytes.set {l : List Int} (h : Bytes l) (i : Nat) (v : Int) (hv : 0 ≤ v ∧ v ≤ 255) : Bytes (l.set i v) := fun x hx => by
  rcases List.mem_or_eq_of_mem_set hx with h1 | h1
  · exact h x h1
  · rw [h1]; exact hv

theorem TruncSame : wristbandlaw04_TruncSame.Pure := by
  intro a b c at_ by_ _ _ h0 _ _ h1 _ _ h2 h3 h4
  have ha := bytes_of h0
  have hb := bytes_of h1
  have hc := bytes_of h2
  have hat := bounds_u16 h3
  have hby := bounds_u8 h4
  obtain ⟨k, hk⟩ : ∃ k : Nat, 19000 ≤ k := ⟨19000, Nat.le_refl _⟩
  have j0t : wristbandlaw04_TruncSame.j0 (k + 3) a b c at_ by_ true = some true := by simp only [wristbandlaw04_TruncSame.j0, if_true]
  have j2t : wristbandlaw04_TruncSame.j2 (k + 1) a at_ by_ true = some true := by simp only [wristbandlaw04_TruncSame.j2, if_true]
  refine ⟨k + 3, ?_⟩
  unfold wristbandlaw04_TruncSame.f
  rw [awake_at _ (by omega)]
  simp only [Option.bind_some, if_true]
  by_cases hl0 : (a.length : Int) > 3000
  · rw [if_pos hl0]; exact j0t
  rw [if_neg hl0]
  by_cases hl1 : (b.length : Int) > 3000
  · rw [if_pos hl1]; exact j0t
  rw [if_neg hl1]
  by_cases hl2 : (c.length : Int) > 3000
  · rw [decide_eq_true hl2]; exact j0t
  rw [decide_eq_false hl2]
  have uab := unlike_f a b ha hb (by omega) (by omega) (k + 2) (by omega)
  have uba := unlike_f b a hb ha (by omega) (by omega) (k + 2) (by omega)
  have uac := unlike_f a c ha hc (by omega) (by omega) (k + 2) (by omega)
  have ubc := unlike_f b c hb hc (by omega) (by omega) (k + 2) (by omega)
  have sab := same_f a b ha hb (by omega) (by omega) (k + 2) (by omega)
  have tri := unl_tri a b c
  have l1 := unl_le a b
  have l2 := unl_le b c
  have z := unl_zero a b
  rw [unl_comm b a] at uba
  generalize unl a b = u at *
  generalize unl b c = v at *
  generalize unl a c = x at *
  have nm : ¬ ((u : Int) > mx (a.length : Int) (b.length : Int)) := by rw [mx_eq]; omega
  have hw0 : -9223372036854775808 ≤ (u : Int) + (v : Int) := by omega
  have hw1 : (u : Int) + (v : Int) ≤ 9223372036854775807 := by omega
  have d1 : decide ((x : Int) > (u : Int) + (v : Int)) = false := decide_eq_false (by omega)
  have e1 : (((u : Int) == 0) != ((strOfNums a).toList == (strOfNums b).toList)) = false := by
    rw [str_beq a b ha hb]
    by_cases e : a = b
    · rw [decide_eq_true e, z.2 e]; rfl
    · have h0 : u ≠ 0 := fun h => e (z.1 h)
      have h1 : (u : Int) ≠ 0 := by omega
      rw [decide_eq_false e, beq_eq_false_iff_ne.2 h1]; rfl
  simp only [wristbandlaw04_TruncSame.j0, Bool.false_eq_true, if_false]
  rw [sab]
  simp only [Option.bind_some]
  rw [e1, if_neg (by simp), uab, uba]
  simp only [Option.bind_some]
  simp only [if_true]
  rw [if_neg nm]
  simp only [uac, ubc, Option.bind_some, wrap64_id hw0 hw1, d1]
  clear hw0 hw1 d1 e1 z tri
  simp only [wristbandlaw04_TruncSame.j1, Bool.false_eq_true, if_false]
  by_cases hz : (a.length : Int) = 0
  · rw [if_pos hz]; exact j2t
  rw [if_neg hz]
  by_cases hy : by_ = 0
  · rw [beq_iff_eq.2 hy]; exact j2t
  rw [beq_eq_false_iff_ne.2 hy]
  simp only [wristbandlaw04_TruncSame.j2, Bool.false_eq_true, if_false, Option.bind_some, List.nil_append, List.length_nil]
  obtain ⟨p, hp⟩ : ∃ p : Nat, Int.tmod (wrap64 at_) (a.length : Int) = (p : Int) ∧ p < a.length := by
    rw [wrap64_id (by omega) (by omega), tmod_nn hat.1]
    have h1 := Int.emod_nonneg at_ (show (a.length : Int) ≠ 0 by omega)
    have h2 := Int.emod_lt_of_pos at_ (show (0 : Int) < (a.length : Int) by omega)
    exact ⟨(at_ % (a.length : Int)).toNat, by omega, by omega⟩
  have hr := ha a[p] (List.getElem_mem hp.2)
  have hx := xor_ne a[p] by_ hr hby hy
  rw [if_pos (by omega), if_neg hz, hp.1, if_pos (by omega), if_pos (by omega), Int.toNat_natCast, rd_at p hp.2]
  have hs : Bytes (a.set p (Go.bits .xor .u8 a[p] by_)) := ha.set p _ hx.2
  have hl : (a.set p (Go.bits .xor .u8 a[p] by_)).length = a.length := List.length_set
  have h1 : unl a (a.set p (Go.bits .xor .u8 a[p] by_)) = 1 := by
    unfold unl; rw [hl, dif_set a p _ hp.2 hx.1]; omega
  rw [unlike_f a _ ha hs (by omega) (by omega) _ (by omega), same_f a _ ha hs (by omega) (by omega) _ (by omega), h1]
  rfl

end Go.Proofs.Ytnpkhkhlofkbhaa.Pure
