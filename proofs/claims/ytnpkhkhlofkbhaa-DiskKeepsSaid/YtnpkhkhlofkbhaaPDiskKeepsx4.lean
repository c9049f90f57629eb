-- made by a program of this session (its printer) out of what Lean prints of the given program
import Derived.Test.YtnpkhkhlofkbhaaPDiskKeepsx0
import Derived.Test.YtnpkhkhlofkbhaaPDiskKeepsx1
import Derived.Test.YtnpkhkhlofkbhaaPDiskKeepsx2
import Derived.Test.YtnpkhkhlofkbhaaPDiskKeepsx3
namespace Go.Proofs.Ytnpkhkhlofkbhaa.PDiskKeeps
open Go.RowKit Go.Proofs.YtnpkhkhlofkbhaaW.PrintWords Go.Proofs.YtnpkhkhlofkbhaaW.PrintLast Go.Proofs.YtnpkhkhlofkbhaaW.PrintMore
attribute [local go_sem] max2_int min2_int max_two min_two max_three min_three max_four min_four   -- for this text's walks alone
set_option linter.unusedVariables false
set_option linter.unusedSimpArgs false

/-! ### wristbandlaw17_DiskKeeps: function 12 -/
theorem wrap64_id {n : Int} (h0 : -9223372036854775808 ≤ n) (h1 : n ≤ 9223372036854775807) : wrap64 n = n := by unfold wrap64; omega
theorem ex_succ {k n : Nat} (h : n < k) : ∃ m, k = m + 1 := ⟨k - 1, by omega⟩
/-! the disk's functions -/
def OkA (l : List Int) (s : Int) : Prop := 0 ≤ s ∧ s ≤ (l.length : Int) ∧ l.length ≤ 1048576
theorem okA_iff (l : List Int) (s : Int) : dk.ok l.length s = true ↔ OkA l s := by
  unfold dk.ok OkA
  simp only [Bool.and_eq_true, decide_eq_true_eq]
theorem right_iff (l0 : List Int) (s0 : Int) (l1 : List Int) (s1 fuse keep : Int) : dk.right l0.length s0 l1.length s1 fuse keep = true ↔ (OkA l0 s0 ∧ OkA l1 s1 ∧ -1 ≤ fuse ∧ 0 ≤ keep) := by
  unfold dk.right
  simp only [Bool.and_eq_true, decide_eq_true_eq, okA_iff]
/-- How much of an area stays. -/
def cn (n : Nat) (s keep : Int) : Nat := min (s.toNat + keep.toNat) n
theorem cn_le (n : Nat) (s keep : Int) : cn n s keep ≤ n := by unfold cn; omega
theorem le_cn (n : Nat) (s keep : Int) (h : s ≤ (n : Int)) : s ≤ (cn n s keep : Int) := by unfold cn; omega
theorem dl_n (l : List Int) (s keep : Int) (h : OkA l s) (hk : 0 ≤ keep) : dl.n l.length s keep = (cn l.length s keep : Int) := by
  unfold OkA at h
  unfold dl.n cn
  rw [wrap64_id (n := (l.length : Int) - s) (by omega) (by omega), show mn keep ((l.length : Int) - s) = min keep ((l.length : Int) - s) by unfold mn; split <;> omega, wrap64_id (by omega) (by omega)]
  omega
theorem clone8 (l : List Int) (h : l.length < 140737488355328) : slices_Clone_byte_byte.f l = some l := by
  unfold slices_Clone_byte_byte.f; rw [if_pos h]
theorem concat8 (a b : List Int) (h : a.length + b.length < 140737488355328) : slices_Concat_byte_byte.f [a, b] = some (a ++ b) := by
  unfold slices_Concat_byte_byte.f
  have e : [a, b].flatten = a ++ b := by simp
  rw [e, if_pos ⟨by simp, by rw [List.length_append]; exact h⟩]
theorem lost_f (l0 : List Int) (s0 : Int) (l1 : List Int) (s1 fuse keep : Int) (dn : Bool) (a : Int) (h0 : OkA l0 s0) (h1 : OkA l1 s1) (ha : 0 ≤ a) :
    disk_lost.f l0 s0 l1 s1 fuse keep dn a = some (l0.take (cn l0.length s0 a), (cn l0.length s0 a : Int), l1.take (cn l1.length s1 a), (cn l1.length s1 a : Int), -1, keep, true) := by
  unfold disk_lost.f
  rw [dl_n l0 s0 a h0 ha, dl_n l1 s1 a h1 ha]
  have c0 := cn_le l0.length s0 a
  have c1 := cn_le l1.length s1 a
  unfold OkA at h0 h1
  rw [if_pos ⟨by omega, by omega, by omega, by omega⟩, Int.toNat_natCast, Int.toNat_natCast, clone8 _ (by rw [List.length_take]; omega)]
  simp only [Option.bind_some]
  rw [clone8 _ (by rw [List.length_take]; omega)]
  rfl
theorem wr_n (keep : Int) (nb : Nat) (h : 0 ≤ keep) : wr.n keep nb = min keep.toNat nb := by
  unfold wr.n
  repeat' split
  all_goals omega
/-- The fuse behind a step that is done. -/
def burnt (fuse : Int) : Int := if 0 < fuse then fuse - 1 else fuse
theorem burnt_w (fuse : Int) (h : -1 ≤ fuse) (h' : fuse ≤ 9223372036854775807) : (if 0 < fuse then wrap64 (fuse - 1) else fuse) = burnt fuse := by
  unfold burnt
  split
  · rw [wrap64_id (by omega) (by omega)]
  · rfl
theorem full_w (n m : Nat) (h : n ≤ 1048576) : decide (wrap64 (1048576 - (n : Int)) < (m : Int)) = decide (1048576 < n + m) := by
  rw [wrap64_id (by omega) (by omega), decide_eq_decide]; omega
theorem sp_full (l0 : List Int) (s0 : Int) (l1 : List Int) (s1 fuse keep : Int) (torn all : Option (List Int × Int × List Int × Int)) : sp.f true true false l0 s0 l1 s1 fuse keep torn all = some (l0, s0, l1, s1, fuse, keep, false, 12) := rfl
theorem sp_torn (l0 : List Int) (s0 : Int) (l1 : List Int) (s1 fuse keep : Int) (torn all : Option (List Int × Int × List Int × Int)) (h : fuse = 0) : sp.f true false false l0 s0 l1 s1 fuse keep torn all = torn.bind fun q => (disk_lost.f q.1 q.2.1 q.2.2.1 q.2.2.2 0 keep false keep).bind fun r => some (r.1, r.2.1, r.2.2.1, r.2.2.2.1, r.2.2.2.2.1, r.2.2.2.2.2.1, r.2.2.2.2.2.2, 14) := by
  unfold sp.f; rw [if_pos rfl, if_neg (by decide), if_neg (by decide), if_pos h]
theorem sp_all (l0 : List Int) (s0 : Int) (l1 : List Int) (s1 fuse keep : Int) (torn all : Option (List Int × Int × List Int × Int)) (h : ¬ fuse = 0) (hf : -1 ≤ fuse) (hf' : fuse ≤ 9223372036854775807) : sp.f true false false l0 s0 l1 s1 fuse keep torn all = all.bind fun q => some (q.1, q.2.1, q.2.2.1, q.2.2.2, burnt fuse, keep, false, 0) := by
  unfold sp.f; rw [if_pos rfl, if_neg (by decide), if_neg (by decide), if_neg h, burnt_w fuse hf hf']
theorem write0 (l0 : List Int) (s0 : Int) (l1 : List Int) (s1 fuse keep : Int) (b : List Int) (h0 : OkA l0 s0) (h1 : OkA l1 s1) (hf : -1 ≤ fuse) (hf' : fuse ≤ 9223372036854775807) (hk : 0 ≤ keep) (hb : l0.length + b.length ≤ 1048576) :
    disk_Write.f l0 s0 l1 s1 fuse keep false 0 b = if fuse = 0 then
      some ((l0 ++ b.take (min keep.toNat b.length)).take (cn (l0.length + min keep.toNat b.length) s0 keep), (cn (l0.length + min keep.toNat b.length) s0 keep : Int), l1.take (cn l1.length s1 keep), (cn l1.length s1 keep : Int), -1, keep, true, 14)
    else some (l0 ++ b, s0, l1, s1, burnt fuse, keep, false, 0) := by
  unfold disk_Write.f
  have e : (l0 ++ b.take (min keep.toNat b.length)).length = l0.length + min keep.toNat b.length := by rw [List.length_append, List.length_take]; omega
  have o : OkA (l0 ++ b.take (min keep.toNat b.length)) s0 := by unfold OkA at h0 ⊢; rw [e]; omega
  rw [(right_iff l0 s0 l1 s1 fuse keep).2 ⟨h0, h1, hf, hk⟩, if_pos (show (0 : Int) ≤ 0 ∧ (0 : Int) < 2 by omega), if_pos rfl, full_w _ _ h0.2.2, decide_eq_false (show ¬ 1048576 < l0.length + b.length by omega), wr_n _ _ hk]
  rw [show (true && (decide ((0 : Int) ≤ 0) && decide ((0 : Int) < 2))) = true by decide]
  by_cases e0 : fuse = 0
  · rw [if_pos e0, sp_torn _ _ _ _ _ _ _ _ e0, concat8 _ _ (by rw [List.length_take]; omega)]
    simp only [Option.bind_some, if_true]
    rw [lost_f _ _ _ _ _ _ _ _ o h1 hk, e]
    rfl
  · rw [if_neg e0, sp_all _ _ _ _ _ _ _ _ e0 hf hf', concat8 _ _ (by omega)]
    rfl
theorem sync0 (l0 : List Int) (s0 : Int) (l1 : List Int) (s1 fuse keep : Int) (h0 : OkA l0 s0) (h1 : OkA l1 s1) (hf : -1 ≤ fuse) (hf' : fuse ≤ 9223372036854775807) (hk : 0 ≤ keep) :
    disk_Sync.f l0 s0 l1 s1 fuse keep false 0 = if fuse = 0 then
      some (l0.take (cn l0.length s0 keep), (cn l0.length s0 keep : Int), l1.take (cn l1.length s1 keep), (cn l1.length s1 keep : Int), -1, keep, true, 14)
    else some (l0, (l0.length : Int), l1, s1, burnt fuse, keep, false, 0) := by
  unfold disk_Sync.f
  rw [(right_iff l0 s0 l1 s1 fuse keep).2 ⟨h0, h1, hf, hk⟩, show (true && (decide ((0 : Int) ≤ 0) && decide ((0 : Int) < 2))) = true by decide]
  by_cases e0 : fuse = 0
  · rw [if_pos e0, sp_torn _ _ _ _ _ _ _ _ e0]
    simp only [Option.bind_some]
    rw [lost_f _ _ _ _ _ _ _ _ h0 h1 hk]
    rfl
  · rw [if_neg e0, sp_all _ _ _ _ _ _ _ _ e0 hf hf']
    rfl
theorem rise_f (l0 : List Int) (s0 : Int) (l1 : List Int) (s1 fuse keep : Int) (h0 : OkA l0 s0) (h1 : OkA l1 s1) (hf : -1 ≤ fuse) (hk : 0 ≤ keep) :
    disk_Rise.f l0 s0 l1 s1 fuse keep true = some (l0, s0, l1, s1, fuse, keep, false, 0) := by
  unfold disk_Rise.f disk_Right.f
  rw [(right_iff l0 s0 l1 s1 fuse keep).2 ⟨h0, h1, hf, hk⟩]
  rfl
theorem right_f (l0 : List Int) (s0 : Int) (l1 : List Int) (s1 fuse keep : Int) (dn : Bool) (h0 : OkA l0 s0) (h1 : OkA l1 s1) (hf : -1 ≤ fuse) (hk : 0 ≤ keep) :
    disk_Right.f l0 s0 l1 s1 fuse keep dn = some true := by
  unfold disk_Right.f
  rw [(right_iff l0 s0 l1 s1 fuse keep).2 ⟨h0, h1, hf, hk⟩]
/-! strings of bytes -/
theorem toList_loop (b : ByteArray) : ∀ (d i : Nat) (r : List UInt8), i + d = b.size → ByteArray.toList.loop b i r = r.reverse ++ b.data.toList.drop i := by
  intro d
  induction d with
  | zero =>
    intro i r h
    rw [ByteArray.toList.loop, if_neg (by omega), List.drop_eq_nil_of_le (by rw [Array.length_toList]; show b.size ≤ i; omega), List.append_nil]
  | succ d ih =>
    intro i r h
    have hlt : i < b.size := by omega
    have hl : i < b.data.toList.length := by rw [Array.length_toList]; exact hlt
    have hg : b.get! i = b.data.toList[i] := by
      show b.data[i]! = _
      rw [getElem!_pos b.data i hlt, Array.getElem_toList]
    rw [ByteArray.toList.loop, if_pos hlt, ih (i + 1) _ (by omega), List.drop_eq_getElem_cons hl, hg]
    simp
theorem toList_data (b : ByteArray) : b.toList = b.data.toList := by
  unfold ByteArray.toList
  rw [toList_loop b b.size 0 [] (by omega)]
  simp
theorem str_toList (xs : List Int) : (strOfNums xs).toList = xs.map fun n => UInt8.ofNat n.toNat := by
  rw [toList_data]; simp [strOfNums]
def other : List Int := [111, 116, 104, 101, 114]
theorem write_other : disk_Write.f [] 0 [] 0 (-1) 0 false 1 ([111, 116, 104, 101, 114] : List Int) = some ([], 0, other, 0, -1, 0, false, 0) := by kernel_rfl
theorem sync_other : disk_Sync.f [] 0 other 0 (-1) 0 false 1 = some ([], 0, other, 5, -1, 0, false, 0) := by kernel_rfl
theorem other_str : (strOfNums other).toList = ([111, 116, 104, 101, 114] : List UInt8) := by
  rw [str_toList]; rfl
/-- What holds ahead of each round: K is the disk's keep. -/
structure Inv (all : List Int) (sure K : Int) (l0 : List Int) (s0 fuse : Int) (dn : Bool) : Prop where
  pre : l0 = all.take l0.length
  le : l0.length ≤ all.length
  p0 : 0 ≤ sure
  p1 : sure ≤ (l0.length : Int)
  f0 : -1 ≤ fuse
  f1 : fuse ≤ 255
  k0 : 0 ≤ K
  k1 : K ≤ 255
  up : dn = false → l0 = all ∧ s0 = sure
  down : dn = true → s0 = (l0.length : Int)
theorem okOther : OkA other 5 := by unfold OkA other; simp
theorem cnOther (K : Int) : cn other.length 5 K = 5 := by unfold cn other; simp only [List.length_cons, List.length_nil]; omega
theorem takeOther : other.take 5 = other := rfl
theorem Inv.ok {all : List Int} {sure K : Int} {l0 : List Int} {s0 fuse : Int} {dn : Bool} (h : Inv all sure K l0 s0 fuse dn) (hn : all.length ≤ 1048576) : OkA l0 s0 := by
  have := h.p0; have := h.p1; have := h.le
  unfold OkA
  cases dn with
  | false => have := (h.up rfl).2; omega
  | true => have := h.down rfl; omega
/-- The power goes: an area of some bytes that are the beginning of all. -/
theorem Inv.lost {all : List Int} {sure K : Int} {x : List Int} (hx : x = all.take x.length) (hl : x.length ≤ all.length) (h0 : 0 ≤ sure) (h1 : sure ≤ (x.length : Int)) (k0 : 0 ≤ K) (k1 : K ≤ 255) :
    Inv all sure K (x.take (cn x.length sure K)) (cn x.length sure K : Int) (-1) true := by
  have c := cn_le x.length sure K
  have e : (x.take (cn x.length sure K)).length = cn x.length sure K := by rw [List.length_take]; omega
  refine ⟨?_, by omega, h0, by rw [e]; exact le_cn _ _ _ h1, by omega, by omega, k0, k1, (fun h => by cases h), fun _ => by rw [e]⟩
  rw [e]
  clear e
  generalize cn x.length sure K = m at c ⊢
  conv => lhs; rw [hx, List.take_take]
  congr 1
  omega
theorem crash_f (l0 : List Int) (s0 : Int) (l1 : List Int) (s1 fuse keep a : Int) (h0 : OkA l0 s0) (h1 : OkA l1 s1) (hf : -1 ≤ fuse) (hk : 0 ≤ keep) (ha : 0 ≤ a) (k : Nat) (hr : 0 < k) :
    disk_Crash.f k l0 s0 l1 s1 fuse keep false a = some (l0.take (cn l0.length s0 a), (cn l0.length s0 a : Int), l1.take (cn l1.length s1 a), (cn l1.length s1 a : Int), -1, keep, true, 0) := by
  obtain ⟨k, rfl⟩ := ex_succ hr
  unfold disk_Crash.f
  rw [right_f _ _ _ _ _ _ _ h0 h1 hf hk]
  simp only [Option.bind_some, if_true]
  rw [decide_eq_false (by omega), disk_Crash.j0, if_neg (by decide), if_neg (by decide), lost_f _ _ _ _ _ _ _ _ h0 h1 ha]
  rfl
theorem kp.write {all : List Int} {sure K : Int} {l0 : List Int} {s0 fuse : Int} (h : Inv all sure K l0 s0 fuse false) (b : List Int) (hn : all.length + b.length ≤ 1048576) :
    ∃ (z0 : List Int) (t0 fu : Int) (dn : Bool) (e : Int), disk_Write.f l0 s0 other 5 fuse K false 0 b = some (z0, t0, other, 5, fu, K, dn, e) ∧ ((e = 14 ∧ dn = true) ∨ (e = 0 ∧ dn = false)) ∧ Inv (all ++ b) sure K z0 t0 fu dn := by
  have o := h.ok (by omega)
  have f0 := h.f0; have f1 := h.f1; have k0 := h.k0; have k1 := h.k1; have p0 := h.p0; have p1 := h.p1
  obtain ⟨e, e'⟩ := h.up rfl
  subst e e'
  have ha : (l0 ++ b).length = l0.length + b.length := List.length_append
  have hw := write0 _ _ _ _ _ _ b o okOther f0 (by omega) k0 (by omega)
  by_cases e0 : fuse = 0
  · rw [if_pos e0, cnOther, takeOther] at hw
    have hm : min K.toNat b.length ≤ b.length := Nat.min_le_right _ _
    generalize min K.toNat b.length = m at hm hw
    have ex : (l0 ++ b.take m).length = l0.length + m := by rw [List.length_append, List.length_take]; omega
    rw [← ex] at hw
    refine ⟨_, _, _, _, _, hw, .inl ⟨rfl, rfl⟩, Inv.lost ?_ (by omega) p0 (by omega) k0 k1⟩
    rw [ex, List.take_append, List.take_of_length_le (l := l0) (by omega), show l0.length + m - l0.length = m by omega]
  · rw [if_neg e0] at hw
    have g0 : -1 ≤ burnt fuse ∧ burnt fuse ≤ 255 := by unfold burnt; split <;> omega
    exact ⟨_, _, _, _, _, hw, .inr ⟨rfl, rfl⟩, ⟨by rw [List.take_length], Nat.le_refl _, p0, by omega, g0.1, g0.2, k0, k1, fun _ => ⟨rfl, rfl⟩, (fun h => by cases h)⟩⟩
theorem kp.sync {all : List Int} {sure K : Int} {l0 : List Int} {s0 fuse : Int} (h : Inv all sure K l0 s0 fuse false) (hn : all.length ≤ 1048576) :
    ∃ (z0 : List Int) (t0 fu : Int) (dn : Bool) (e : Int), disk_Sync.f l0 s0 other 5 fuse K false 0 = some (z0, t0, other, 5, fu, K, dn, e) ∧ ((e = 14 ∧ dn = true ∧ Inv all sure K z0 t0 fu true) ∨ (e = 0 ∧ dn = false ∧ Inv all (all.length : Int) K z0 t0 fu false)) := by
  have o := h.ok (by omega)
  have f0 := h.f0; have f1 := h.f1; have k0 := h.k0; have k1 := h.k1; have p0 := h.p0; have p1 := h.p1
  obtain ⟨e, e'⟩ := h.up rfl
  subst e e'
  have hw := sync0 _ _ _ _ _ _ o okOther f0 (by omega) k0
  by_cases e0 : fuse = 0
  · rw [if_pos e0, cnOther, takeOther] at hw
    exact ⟨_, _, _, _, _, hw, .inl ⟨rfl, rfl, Inv.lost (by rw [List.take_length]) (Nat.le_refl _) p0 (by omega) k0 k1⟩⟩
  · rw [if_neg e0] at hw
    have g0 : -1 ≤ burnt fuse ∧ burnt fuse ≤ 255 := by unfold burnt; split <;> omega
    exact ⟨_, _, _, _, _, hw, .inr ⟨rfl, rfl, ⟨by rw [List.take_length], Nat.le_refl _, by omega, Int.le_refl _, g0.1, g0.2, k0, k1, fun _ => ⟨rfl, rfl⟩, (fun h => by cases h)⟩⟩⟩
theorem kp.crash {all : List Int} {sure K : Int} {l0 : List Int} {s0 fuse : Int} (h : Inv all sure K l0 s0 fuse false) (hn : all.length ≤ 1048576) :
    ∃ (z0 : List Int) (t0 : Int), disk_Crash.f 1 l0 s0 other 5 fuse K false K = some (z0, t0, other, 5, -1, K, true, 0) ∧ Inv all sure K z0 t0 (-1) true := by
  have o := h.ok (by omega)
  obtain ⟨e, e'⟩ := h.up rfl
  have hc := crash_f _ _ _ _ _ _ _ o okOther h.f0 h.k0 h.k0 1 (by omega)
  rw [cnOther, takeOther] at hc
  subst e'
  exact ⟨_, _, hc, Inv.lost h.pre h.le h.p0 h.p1 h.k0 h.k1⟩
theorem kp.rise {all : List Int} {sure K : Int} {l0 : List Int} {s0 fuse : Int} (h : Inv all sure K l0 s0 fuse true) (hn : all.length ≤ 1048576) :
    disk_Rise.f l0 s0 other 5 fuse K true = some (l0, s0, other, 5, fuse, K, false, 0) ∧ disk_Right.f l0 s0 other 5 fuse K false = some true ∧ s0 = (l0.length : Int) ∧ sure ≤ (l0.length : Int) ∧ l0.length ≤ all.length ∧ l0 = all.take l0.length :=
  ⟨rise_f _ _ _ _ _ _ (h.ok hn) okOther h.f0 h.k0, right_f _ _ _ _ _ _ _ (h.ok hn) okOther h.f0 h.k0, h.down rfl, h.p1, h.le, h.pre⟩
theorem Dvar.grown {W W' : World} {G : List Nat} {g : Nat} {v0 v1 : Value} {l0 l1 : List Int} {s0 s1 fu ke : Int} {dn : Bool} {row : Option Nat} (d : Dvar W G g v0 l0 s0 v1 l1 s1 fu ke dn) (hg : W.grownBy W' row) (hr : ∀ k, row = some k → k ∈ G ∧ k ≠ g) (hs : W.heap.size ≤ W'.heap.size) : Dvar W' G g v0 l0 s0 v1 l1 s1 fu ke dn :=
  ⟨(hg.block g (blk_lt d.b) (fun h => (hr g h.symm).2 rfl)).trans d.b, Kd.V_grown d.r0 hg (fun k hk h => hk (hr k h.symm).1), Kd.V_grown d.r1 hg (fun k hk h => hk (hr k h.symm).1), d.m, fun k hk => Nat.lt_of_lt_of_le (d.lt k hk) hs⟩
/-- Rows that were there are apart from a block that is new. -/
theorem Dvar.also {W W' : World} {G : List Nat} {g b : Nat} {v0 v1 : Value} {l0 l1 : List Int} {s0 s1 fu ke : Int} {dn : Bool} {row : Option Nat} (d : Dvar W G g v0 l0 s0 v1 l1 s1 fu ke dn) (hg : W.grownBy W' row) (hr : ∀ k, row = some k → k ∈ G ∧ k ≠ g) (hs : W.heap.size ≤ W'.heap.size) (hb : W.heap.size ≤ b) (hb' : b < W'.heap.size) : Dvar W' (b :: G) g v0 l0 s0 v1 l1 s1 fu ke dn :=
  have q {v : Value} {l : List Int} (r : Kd.V (Kd.int .u8) 5 W 0 (fun k => k ∉ G) v l) : Kd.V (Kd.int .u8) 5 W' 0 (fun k => k ∉ b :: G) v l :=
    Kd.V_mono (Kd.V_grown (Kd.V_bound r) hg (fun k hk h => hk.1 (hr k h.symm).1)) (fun k hk h => by rcases List.mem_cons.1 h with h | h; (have := hk.2; omega); exact hk.1 h)
  ⟨(hg.block g (blk_lt d.b) (fun h => (hr g h.symm).2 rfl)).trans d.b, q d.r0, q d.r1, List.mem_cons_of_mem _ d.m, fun k hk => by rcases List.mem_cons.1 hk with h | h; omega; have := d.lt k h; omega⟩
/-- A row of the call's own has grown; the disk's rows are apart from it as before. -/
theorem kp.grow {W W' : World} {G : List Nat} {g base : Nat} {v v' v0 v1 : Value} {l l' l0 l1 : List Int} {s0 s1 fu ke : Int} {dn : Bool} (d : Dvar W G g v0 l0 s0 v1 l1 s1 fu ke dn) (own : ∀ k, v.ownBlock = some k → k ∈ G) (r : Kd.R (Kd.int .u8) 5 W base (fun _ => True) v l) (r' : Kd.R (Kd.int .u8) 5 W' base (fun _ => True) v' l') (hg : W.grownBy W' v.ownBlock) (hs : W.heap.size ≤ W'.heap.size) (hat : v'.ownBlock = v.ownBlock ∨ ∃ b, v'.ownBlock = some b ∧ W.heap.size ≤ b) :
    ∃ G', Dvar W' G' g v0 l0 s0 v1 l1 s1 fu ke dn ∧ ∀ k, v'.ownBlock = some k → k ∈ G' := by
  have hr : ∀ k, v.ownBlock = some k → k ∈ G ∧ k ≠ g := fun k hk => ⟨own k hk, (Kd.R_types r d.b (by decide)).1 k hk |>.2⟩
  rcases hat with h | ⟨b, h, hb⟩
  · exact ⟨G, d.grown hg hr hs, fun k hk => own k (h ▸ hk)⟩
  · exact ⟨b :: G, d.also hg hr hs hb (Kd.R_lt r' b h), fun k hk => by rw [h] at hk; obtain rfl := Option.some.inj hk; exact List.mem_cons_self⟩
theorem kp.r7 {W : World} {g base : Nat} {v : Value} {l : List Int} {cs : Array Value} (r : Kd.R (Kd.int .u8) 5 W base (fun _ => True) v l) (hb : W.heap[g]? = some (.cells cs 74 (0, 0))) (a b c e f x y : Value) : Kd.R (Kd.int .u8) 5 (((((((W.setCell ⟨g, 0, none⟩ a).setCell ⟨g, 1, none⟩ b).setCell ⟨g, 2, none⟩ c).setCell ⟨g, 3, none⟩ e).setCell ⟨g, 4, none⟩ f).setCell ⟨g, 5, none⟩ x).setCell ⟨g, 6, none⟩ y) base (fun _ => True) v l :=
  Kd.R_mono (sp.far7 a b c e f x y (Kd.R_types r hb (by decide)) (fun k hk => hk.2)) (fun _ _ => trivial)
/-- Behind the loop: a disk that is down. -/
def PKA (w W : World) (g : Nat) (all : List Int) (sure K : Int) (Aa : Option Addr) (ca : Nat) : Prop := ∃ (x0 : List Int) (s0 fuse : Int) (D0 : Option Addr) (p0 : Nat) (D2 : Option Addr) (p2 : Nat) (G : List Nat), Dvar W G g (.slice D0 x0.length p0) x0 s0 (.slice D2 other.length p2) other 5 fuse K true ∧ Inv all sure K x0 s0 fuse true ∧ Kd.R (Kd.int .u8) 5 W w.heap.size (fun _ => True) (.slice Aa all.length ca) all ∧ Below w.heap.size w W
theorem PKA.mk' {w W : World} {g : Nat} {all : List Int} {sure K : Int} {Aa : Option Addr} {ca : Nat} {x0 : List Int} {s0 fuse : Int} {D0 : Option Addr} {p0 : Nat} {D2 : Option Addr} {p2 : Nat} {G : List Nat} (h1 : Dvar W G g (.slice D0 x0.length p0) x0 s0 (.slice D2 other.length p2) other 5 fuse K true) (h2 : Inv all sure K x0 s0 fuse true) (h3 : Kd.R (Kd.int .u8) 5 W w.heap.size (fun _ => True) (.slice Aa all.length ca) all) (h4 : Below w.heap.size w W) : PKA w W g all sure K Aa ca := ⟨x0, s0, fuse, D0, p0, D2, p2, G, h1, h2, h3, h4⟩
/-- Ahead of each round. -/
def kp.Rel (w : World) (ls : List (List Int)) (K : Int) (g kq : Nat) (v12 v13 v14 : Value) (wx : World) : Prop :=
  ∃ (i : Nat) (all : List Int) (Aa : Option Addr) (ca : Nat) (sure : Int) (x0 : List Int) (s0 fuse : Int) (dn : Bool) (D0 : Option Addr) (p0 : Nat) (D2 : Option Addr) (p2 : Nat) (G : List Nat),
    v12 = .slice Aa all.length ca ∧ v13 = .int .i64 sure ∧ v14 = .int .i64 (i : Int) ∧ i ≤ ls.length ∧ all.length ≤ 300 * i ∧ ls.length < kq + i ∧ kq ≤ ls.length + 1 ∧ Inv all sure K x0 s0 fuse dn ∧ Dvar wx G g (.slice D0 x0.length p0) x0 s0 (.slice D2 other.length p2) other 5 fuse K dn ∧ (∀ k, (Value.slice Aa all.length ca).ownBlock = some k → k ∈ G) ∧ Kd.R (Kd.int .u8) 5 wx w.heap.size (fun _ => True) (.slice Aa all.length ca) all ∧ Below w.heap.size w wx
def kp.T33 : Bool × List (List Nat × List Nat) := (true, [([], []), ([0], [0]), ([1], [1]), ([2], [2]), ([3, 2, 2], [2, 3]), ([2, 4], [2, 4]), ([5, 4], [5]), ([6], [6]), ([7, 6], [6, 7]), ([6], [6]), ([8, 9, 6], [6, 8, 9]), ([6, 10], [6, 10]), ([11, 6], [11]), ([12], [12]), ([13, 12], [12, 13]), ([12], [12]), ([15, 12], [12, 15]), ([14, 16, 12], [12, 14, 16]), ([12, 17], [12, 17]), ([18, 12], [18]), ([19], [19]), ([20, 19], [19, 20]), ([19], [19]), ([19], [19]), ([23, 19], [19, 23]), ([22, 24, 19], [19, 22, 24]), ([25, 19], [19, 25]), ([21, 26, 19], [19, 21, 26]), ([19, 27], [19, 27]), ([28, 19], [28]), ([29], [29]), ([30, 29], [29, 30]), ([31, 29], [29, 31]), ([32, 29], [29, 32]), ([33, 29], [29, 33]), ([34, 29], [29, 34]), ([29, 35], [29, 35]), ([36, 29], [36]), ([37], [37]), ([38, 37], [37, 38]), ([39, 37], [37, 39]), ([40, 37], [37, 40]), ([37], [37]), ([42, 37], [37, 42]), ([41, 43, 37], [37, 41, 43]), ([37, 44], [37, 44]), ([45, 37, 0, 1, 2, 3, 4, 5, 6, 7, 8, 9, 10, 11, 12, 13, 14, 15, 16, 17, 18, 19, 20, 21, 22, 23, 24, 25, 26, 27, 28, 29, 30, 31, 32, 33, 34, 35, 36, 37, 38, 39, 40, 41, 42, 43, 44, 45], [45])])
def kp.B33 : List Nat := [0, 1, 3, 7, 15, 31, 63, 127, 255, 127, 1023, 2047, 4095, 8191, 16383, 8191, 40959, 131071, 262143, 524287, 1048575, 2097151, 1048575, 1048575, 9437183, 30408703, 63963135, 134217727, 268435455, 536870911, 1073741823, 2147483647, 4294967295, 8589934591, 17179869183, 34359738367, 68719476735, 137438953471, 274877906943, 549755813887, 1099511627775, 2199023255551, 274877906943, 4672924418047, 17592186044415, 35184372088831, 70368744177663]
theorem kp.tab33 : rtab .any (opsOf Try.f12 33) = kp.T33 := by kernel_rfl
theorem kp.bits33 : waitsOk kp.T33.2 kp.B33 = true := by kernel_rfl
set_option maxHeartbeats 16000000 in
set_option maxRecDepth 100000 in
theorem kp.many (A0 : Option Addr) (c0 : Nat) (ls : List (List Int)) (A1 : Option Addr) (c1 : Nat) (bs : List Bool) (a2 a3 : Int) (w : World) (h : 30 < ls.length) :
    Calls Try.prog 12 #[.slice A0 ls.length c0, .slice A1 bs.length c1, .int .u8 a2, .int .u8 a3] w fun e w' => e = .returned (.bool true) ∧ Below w.heap.size w w' := by
  have b0 : decide (30 < (ls.length : Int)) = true := decide_eq_true (by omega)
  have b1 : decide (30 < ls.length) = true := decide_eq_true h
  clear h
  go_enter Try.func12, Try.ntmps12
  go_wp2_with (go_at_call 53; refine Calls.mono (wristbandlaw17_awake.calls true _ rfl) ?_; rintro e w0 ⟨rfl, hb⟩; have HB0 := Aside0.mk hb; clear hb)
  go_ret
  exact ⟨rfl, HB0.out⟩
set_option maxHeartbeats 16000000 in
set_option maxRecDepth 100000 in
theorem kp.few (A0 : Option Addr) (c0 : Nat) (ls : List (List Int)) (A1 : Option Addr) (c1 : Nat) (bs : List Bool) (a2 a3 : Int) (w : World) (h : ls.length ≤ 30) (h1 : bs.length < ls.length) :
    Calls Try.prog 12 #[.slice A0 ls.length c0, .slice A1 bs.length c1, .int .u8 a2, .int .u8 a3] w fun e w' => e = .returned (.bool true) ∧ Below w.heap.size w w' := by
  have b0 : decide (30 < (ls.length : Int)) = false := decide_eq_false (by omega)
  have b1 : decide (30 < ls.length) = false := decide_eq_false (by omega)
  have b2 : decide (bs.length < ls.length) = true := decide_eq_true h1
  have b3 : decide ((bs.length : Int) < (ls.length : Int)) = true := decide_eq_true (by omega)
  clear h h1
  go_enter Try.func12, Try.ntmps12
  go_wp2_with (go_at_call 53; refine Calls.mono (wristbandlaw17_awake.calls true _ rfl) ?_; rintro e w0 ⟨rfl, hb⟩; have HB0 := Aside0.mk hb; clear hb)
  go_ret
  exact ⟨rfl, HB0.out⟩
set_option maxHeartbeats 16000000 in
set_option maxRecDepth 100000 in
theorem kp.main (A0 : Option Addr) (c0 : Nat) (ls : List (List Int)) (A1 : Option Addr) (c1 : Nat) (bs : List Bool) (a2 a3 : Int) (w : World) (h2 : 0 ≤ a2) (h2' : a2 ≤ 255) (h3 : 0 ≤ a3) (h3' : a3 ≤ 255) (hr0 : Kd.C (Kd.slice 5 (Kd.int .u8)) w A0 ls.length ls) (hc0 : ls.length ≤ c0) (hr1 : Kd.C Kd.bool w A1 bs.length bs) (hc1 : bs.length ≤ c1) (h : ls.length ≤ 30) (h1 : ls.length ≤ bs.length) (ye : List Int) (hye : ye = [])
    (F0 : disk_New.f = some (ye, 0, ye, 0, -1, 0, false)) (F1 : disk_Write.f ye 0 ye 0 (-1) 0 false 1 other = some (ye, 0, other, 0, -1, 0, false, 0)) (F2 : disk_Sync.f ye 0 other 0 (-1) 0 false 1 = some (ye, 0, other, 5, -1, 0, false, 0)) :
    Calls Try.prog 12 #[.slice A0 ls.length c0, .slice A1 bs.length c1, .int .u8 a2, .int .u8 a3] w fun e w' => e = .returned (.bool true) ∧ Below w.heap.size w w' := by
  have b0 : decide (30 < (ls.length : Int)) = false := decide_eq_false (by omega)
  have b1 : decide (30 < ls.length) = false := decide_eq_false (by omega)
  have b2 : decide (bs.length < ls.length) = false := decide_eq_false (by omega)
  have b3 : decide ((bs.length : Int) < (ls.length : Int)) = false := decide_eq_false (by omega)
  have HR0 := Aside0.mk hr0
  have HC0 := Aside0.mk hc0
  have HR1 := Aside0.mk hr1
  have HC1 := Aside0.mk hc1
  have HL := Aside0.mk h
  have HL1 := Aside0.mk h1
  have HE := Aside0.mk hye
  have HF0 := Aside0.mk F0
  have HF1 := Aside0.mk F1
  have HF2 := Aside0.mk F2
  have HO := Aside0.mk (show other = ([111, 116, 104, 101, 114] : List Int) from rfl)
  clear hr0 hc0 hr1 hc1 h h1 hye F0 F1 F2
  go_enter Try.func12, Try.ntmps12
  go_upto_region 6 with (first
    | (go_at_call 53; refine Calls.mono (wristbandlaw17_awake.calls true _ rfl) ?_; rintro e w0 ⟨rfl, hb⟩; have HB0 := Aside0.mk hb; clear hb)
    | (go_at_call 54; refine Calls.mono (disk_New.calls _ _ _ _ _ _ _ _ HF0.out) ?_; rintro e w1 ⟨v0, v2, rfl, h0, h2, hb⟩; obtain ⟨N0, n0, rfl⟩ := Kd.R_slice h0; obtain ⟨N2, n2, rfl⟩ := Kd.R_slice h2; have HN0 := Aside0.mk h0; have HN2 := Aside0.mk h2; have HB1 := Aside0.mk (below_step HB0.out hb); clear h0 h2 hb)
    | ((with_reducible refine gate_dst (N := 35) rfl ?_); (try (refine gate_guard (by rfl) ?_; dsimp only)); refine V_const (base := _) (e := 5) (t := 22) (N' := 35) ?hg ?hd ?ho2 ?hlt Try.underlying22 Try.underlying5 (xs := ([111, 116, 104, 101, 114] : List Int)) (ok := (fun _ => True)) ?hr ?hg2 trivial (Below.refl _ _) (Nat.le_refl _) (by simp) ?_; (case hg => rfl); (case hd => rfl); (case ho2 => rfl); (case hg2 => rfl); (case hlt => exact of_decide_eq_true rfl); (case hr => first | (go_simp; done) | (go_simp; rfl)); intro v w2 ho hb _ _; rw [← HO.out] at ho; obtain ⟨LA, lc, rfl⟩ := Kd.V_slice ho; have HLo := Aside0.mk ho; have HLB := Aside0.mk hb; clear ho hb)
    | (go_at_call 55; refine Calls.mono (disk_Write.calls (fun k => k ∉ ([] : List Nat)) N0 n0 ye 0 (fun k => k ∉ ([] : List Nat)) N2 n2 ye 0 (-1) 0 false 1 _ _ other ye 0 other 0 (-1) 0 false 0 _ (Kd.V_below (Kd.V_mono (Kd.R_V HN0.out) (fun k _ => List.not_mem_nil)) HLB.out) (Kd.V_below (Kd.V_mono (Kd.R_V HN2.out) (fun k _ => List.not_mem_nil)) HLB.out) (Kd.V_reads' HLo.out).2.2 (Kd.V_reads' HLo.out).2.1 HF1.out) ?_; rintro e w4 ⟨v0, v2, rfl, h0, h2, hb⟩; obtain ⟨B0, d0, rfl⟩ := Kd.V_slice h0; obtain ⟨B2, d2, rfl⟩ := Kd.V_slice h2; have HW0 := Aside0.mk h0; have HW2 := Aside0.mk h2; have HB4 := Aside0.mk (below_step (below_step HB1.out HLB.out) hb); clear h0 h2 hb))
  have HD1 := Aside0.mk (Dvar.mk' (s0 := 0) (s1 := 0) (fu := -1) (ke := 0) (dn := false) (fun k hk => absurd hk List.not_mem_nil) (Dvar.res (fun k hk => absurd hk List.not_mem_nil) HW0.out) (Dvar.res (fun k hk => absurd hk List.not_mem_nil) HW2.out))
  have HB5 := Aside0.mk (below_alloc HB4.out (.cells #[.slice B0 ye.length d0, .int .i64 0, .slice B2 other.length d2, .int .i64 0, .int .i64 (-1), .int .i64 0, .bool false] 74))
  have HG := Aside0.mk HB4.out.size
  generalize w4.alloc (.cells #[.slice B0 ye.length d0, .int .i64 0, .slice B2 other.length d2, .int .i64 0, .int .i64 (-1), .int .i64 0, .bool false] 74) = W5 at HD1 HB5 ⊢
  generalize w4.heap.size = g at HD1 HG ⊢
  clear HW0 HW2 HN0 HN2 HB1 HLo HLB HB4
  have qa0 := (blk_cell HD1.out.b 0).trans rfl; have fqa0 := blk_frozen HD1.out.b 0; have qa1 := (blk_cell HD1.out.b 1).trans rfl; have fqa1 := blk_frozen HD1.out.b 1; have qa2 := (blk_cell HD1.out.b 2).trans rfl; have fqa2 := blk_frozen HD1.out.b 2; have qa3 := (blk_cell HD1.out.b 3).trans rfl; have fqa3 := blk_frozen HD1.out.b 3; have qa4 := (blk_cell HD1.out.b 4).trans rfl; have fqa4 := blk_frozen HD1.out.b 4; have qa5 := (blk_cell HD1.out.b 5).trans rfl; have fqa5 := blk_frozen HD1.out.b 5; have qa6 := (blk_cell HD1.out.b 6).trans rfl; have fqa6 := blk_frozen HD1.out.b 6
  go_upto_region 7 with (go_at_call 56; refine Calls.mono (disk_Sync.calls (fun k => k ∉ [g]) _ _ ye 0 (fun k => k ∉ [g]) _ _ other 0 (-1) 0 false 1 ye 0 other 5 (-1) 0 false 0 _ (Dvar.any HD1.out.r0) (Dvar.any HD1.out.r1) HF2.out) ?_; rintro e w6 ⟨v0, v2, rfl, h0, h2, hb⟩; obtain ⟨C0, e0, rfl⟩ := Kd.V_slice h0; obtain ⟨C2, e2, rfl⟩ := Kd.V_slice h2; have hd := HD1.out.below hb; have HD2 := Aside0.mk (Dvar.put7 (t0 := 0) (t1 := 5) (fu' := -1) (ke' := 0) (dn' := false) hd (Dvar.res HD1.out.lt h0) (Dvar.res HD1.out.lt h2)); have HB6 := Aside0.mk (below_step HB5.out hb); have qc0 := (blk_cell hd.b 0).trans rfl; have fqc0 := blk_frozen hd.b 0; have qc1 := (blk_cell hd.b 1).trans rfl; have fqc1 := blk_frozen hd.b 1; have qc2 := (blk_cell hd.b 2).trans rfl; have fqc2 := blk_frozen hd.b 2; have qc3 := (blk_cell hd.b 3).trans rfl; have fqc3 := blk_frozen hd.b 3; have qc4 := (blk_cell hd.b 4).trans rfl; have fqc4 := blk_frozen hd.b 4; have qc5 := (blk_cell hd.b 5).trans rfl; have fqc5 := blk_frozen hd.b 5; have qc6 := (blk_cell hd.b 6).trans rfl; have fqc6 := blk_frozen hd.b 6; clear h0 h2 hb hd)
  have HB7 := Aside0.mk (Dvar.b7 (a := (.slice C0 ye.length e0)) (b := (.int .i64 0)) (c := (.slice C2 other.length e2)) (e := (.int .i64 5)) (f := (.int .i64 (-1))) (x := (.int .i64 0)) (y := (.bool false)) HB6.out HG.out)
  clear qa0 fqa0 qa1 fqa1 qa2 fqa2 qa3 fqa3 qa4 fqa4 qa5 fqa5 qa6 fqa6
  clear qc0 fqc0 qc1 fqc1 qc2 fqc2 qc3 fqc3 qc4 fqc4 qc5 fqc5 qc6 fqc6
  generalize ((((((w6.setCell ⟨g, 0, none⟩ (.slice C0 ye.length e0)).setCell ⟨g, 1, none⟩ (.int .i64 0)).setCell ⟨g, 2, none⟩ (.slice C2 other.length e2)).setCell ⟨g, 3, none⟩ (.int .i64 5)).setCell ⟨g, 4, none⟩ (.int .i64 (-1))).setCell ⟨g, 5, none⟩ (.int .i64 0)).setCell ⟨g, 6, none⟩ (.bool false) = W7 at HD2 HB7 ⊢
  clear HD1 HB5 HB6
  have qa0 := (blk_cell HD2.out.b 0).trans rfl; have fqa0 := blk_frozen HD2.out.b 0; have qa1 := (blk_cell HD2.out.b 1).trans rfl; have fqa1 := blk_frozen HD2.out.b 1; have qa2 := (blk_cell HD2.out.b 2).trans rfl; have fqa2 := blk_frozen HD2.out.b 2; have qa3 := (blk_cell HD2.out.b 3).trans rfl; have fqa3 := blk_frozen HD2.out.b 3; have qa4 := (blk_cell HD2.out.b 4).trans rfl; have fqa4 := blk_frozen HD2.out.b 4; have qa5 := (blk_cell HD2.out.b 5).trans rfl; have fqa5 := blk_frozen HD2.out.b 5; have qa6 := (blk_cell HD2.out.b 6).trans rfl; have fqa6 := blk_frozen HD2.out.b 6
  go_upto_region 10 with fail
  have HD3 := Aside0.mk ((HD2.out.set (j := 4) (u := .int .i64 a2) rfl).set (j := 5) (u := .int .i64 a3) rfl)
  have HB8 := Aside0.mk (below_set (j := 5) (v := .int .i64 a3) (below_set (j := 4) (v := .int .i64 a2) HB7.out HG.out) HG.out)
  clear qa0 fqa0 qa1 fqa1 qa2 fqa2 qa3 fqa3 qa4 fqa4 qa5 fqa5 qa6 fqa6
  generalize (W7.setCell ⟨g, 4, none⟩ (.int .i64 a2)).setCell ⟨g, 5, none⟩ (.int .i64 a3) = W8 at HD3 HB8 ⊢
  clear HD2 HB7
  go_wp2
  go_loopg [12, 13, 14] (ls.length + 1) (kp.Rel w ls a3 g)
  case atStart => exact ⟨0, [], none, 0, 0, [], 0, a2, false, C0, e0, C2, e2, [g], rfl, rfl, rfl, Nat.zero_le _, Nat.le_refl _, by omega, Nat.le_refl _, ⟨rfl, Nat.le_refl _, Int.le_refl _, Int.le_refl _, by omega, by omega, h3, h3', fun _ => ⟨rfl, rfl⟩, (fun h => by cases h)⟩, HE.out ▸ HD3.out, (fun k hk => by cases hk), Kd.R_nil _ _ _ _ _, HB8.out⟩
  case round =>
    obtain ⟨i, all, Aa, ca, sure, x0, sz, fuse, dn, D0, p0, D2, p2, G, rfl, rfl, rfl, hi, hal, hk1, hk2, hI, hD, hown, hR, hB⟩ := hrel
    have HI := Aside0.mk hI
    have HD4 := Aside0.mk hD
    have HOWN := Aside0.mk hown
    have HALL := Aside0.mk hR
    have HBB := Aside0.mk hB
    have HAL0 := Aside0.mk hal
    have HK1 := Aside0.mk hk1
    have HK2 := Aside0.mk hk2
    have HI9 := Aside0.mk hi
    clear hI hown hR hB hal hk1 hk2
    have qa0 := (blk_cell hD.b 0).trans rfl; have fqa0 := blk_frozen hD.b 0; have qa1 := (blk_cell hD.b 1).trans rfl; have fqa1 := blk_frozen hD.b 1; have qa2 := (blk_cell hD.b 2).trans rfl; have fqa2 := blk_frozen hD.b 2; have qa3 := (blk_cell hD.b 3).trans rfl; have fqa3 := blk_frozen hD.b 3; have qa4 := (blk_cell hD.b 4).trans rfl; have fqa4 := blk_frozen hD.b 4; have qa5 := (blk_cell hD.b 5).trans rfl; have fqa5 := blk_frozen hD.b 5; have qa6 := (blk_cell hD.b 6).trans rfl; have fqa6 := blk_frozen hD.b 6
    clear hD
    rcases (show (dn = false ∧ i < ls.length) ∨ ¬ (dn = false ∧ i < ls.length) by exact Decidable.em _) with ⟨rfl, hlt⟩ | hx
    · have bl : decide (i < ls.length) = true := decide_eq_true hlt
      have bl2 : decide ((i : Int) < (ls.length : Int)) = true := decide_eq_true (by omega)
      have HLT := Aside0.mk hlt
      have bl3 := eq_true hlt
      clear hlt hi
      obtain ⟨ad, Ab, cb, e0, hcell, hlb, hCb⟩ := slices_Concat_byte_byte.at_ HR0.out (i : Int) (by omega) (by have := HLT.out; omega)
      subst e0
      rw [Int.toNat_natCast] at hcell
      generalize slices_Concat_byte_byte.rd ls (i : Int) = b at hcell hlb hCb
      have HX := Aside0.mk hcell
      have HLB := Aside0.mk hlb
      have HCB := Aside0.mk hCb
      have hcw := (HBB.out.cell (World.block_lt_of_cell? w _ HX.out)).trans HX.out
      clear hcell hlb hCb
      rcases (show 300 < b.length ∨ ¬ 300 < b.length by exact Decidable.em _) with hb3 | hb3
      · have b4 : decide (300 < b.length) = true := decide_eq_true hb3
        have b5 : decide (300 < (b.length : Int)) = true := decide_eq_true (by omega)
        clear hb3
        go_wp2
        go_ret
        exact ⟨rfl, HBB.out⟩
      · have b4 : decide (300 < b.length) = false := decide_eq_false hb3
        have b5 : decide (300 < (b.length : Int)) = false := decide_eq_false (by omega)
        have HB3 := Aside0.mk hb3
        clear hb3
        obtain ⟨z0, t0, fu, dn2, e2, F, hcase, hI2⟩ := kp.write HI.out b (by have := HAL0.out; have := HB3.out; have := HLT.out; have := HL.out; omega)
        obtain ⟨al2, hal2⟩ : ∃ y : List Int, y = all ++ b := ⟨_, rfl⟩
        rw [← hal2] at hI2
        have HF := Aside0.mk F
        have HY := Aside0.mk hal2
        have HI2 := Aside0.mk hI2
        have HCS := Aside0.mk hcase
        clear F hal2 hI2 hcase
        go_upto_region 18 with ((with_reducible refine gate_builtin (b := .append) (xs := #[.tmp 74, .tmp 78]) rfl ?_); at_builtin; refine Kd.R_append_rows (Kd.int .u8) (w0 := w) w.heap.size rfl (.tmp 74) (.tmp 78) 22 5 (.int .u8 0) 1 rfl Try.underlying22 info5 rfl (by decide) (by omega) (.slice Aa all.length ca) all b _ _ _ (fun _ => True) (fun _ => False) rfl rfl ?aO ?aR (fun _ _ h => h) (fun _ h => h.elim) ?aF ?aB ?aS ?aL ?_; (case aR => exact Kd.C_below HCB.out HBB.out); (case aB => exact HBB.out); (case aF => exact (fun _ _ => trivial)); (case aO => exact HALL.out); (case aS => exact HBB.out.size); (case aL => have := HAL0.out; have := HB3.out; have := HLT.out; have := HL.out; omega); intro v1 w1 ho hb hg hat; obtain ⟨G2, hd2, hown2⟩ := kp.grow HD4.out HOWN.out HALL.out ho hg hg.size hat; rw [← HY.out] at ho; obtain ⟨Ac, cc, rfl⟩ := Kd.R_slice ho; have HAL2 := Aside0.mk ho; have HD5 := Aside0.mk hd2; have HOWN2 := Aside0.mk hown2; have HB5 := Aside0.mk hb; have qb0 := (blk_cell hd2.b 0).trans rfl; have fqb0 := blk_frozen hd2.b 0; have qb1 := (blk_cell hd2.b 1).trans rfl; have fqb1 := blk_frozen hd2.b 1; have qb2 := (blk_cell hd2.b 2).trans rfl; have fqb2 := blk_frozen hd2.b 2; have qb3 := (blk_cell hd2.b 3).trans rfl; have fqb3 := blk_frozen hd2.b 3; have qb4 := (blk_cell hd2.b 4).trans rfl; have fqb4 := blk_frozen hd2.b 4; have qb5 := (blk_cell hd2.b 5).trans rfl; have fqb5 := blk_frozen hd2.b 5; have qb6 := (blk_cell hd2.b 6).trans rfl; have fqb6 := blk_frozen hd2.b 6; have hcw1 := (HB5.out.cell (World.block_lt_of_cell? w _ HX.out)).trans HX.out; clear ho hb hg hat hd2 hown2)
        clear qa0 fqa0 qa1 fqa1 qa2 fqa2 qa3 fqa3 qa4 fqa4 qa5 fqa5 qa6 fqa6
        clear hcw
        have hzb : (ad.add i).block < w1.heap.size := World.block_lt_of_cell? w1 _ hcw1
        have hzg := blk_lt HD5.out.b
        have HBr := Aside0.mk (Below.refl w1.heap.size w1)
        have HCB1 := Aside0.mk (Kd.C_below HCB.out HB5.out)
        go_cut [15, 16] from 57 to 119 (fun v6 v7 wx => Nvar w1 wx G2 g (.slice D0 x0.length p0) x0 sz (.slice D2 other.length p2) other 5 fuse a3 false z0 t0 other 5 fu a3 dn2 e2 v6 v7)
        case first =>
          have HNA := Aside0.mk (blk_lt HD5.out.b)
          have HLE := Aside0.mk HBr.out.size
          have HCA : Aside0 (Dvar w1.drew G2 g (.slice D0 x0.length p0) x0 sz (.slice D2 other.length p2) other 5 fuse a3 false) := ⟨HD5.out.drew⟩
          have HCB : Aside0 (Dvar (w1.alloc (.cells #[.slice none 0 0, .int .i64 0, .slice none 0 0, .int .i64 0, .int .i64 0, .int .i64 0, .bool false] 74)).drew (w1.heap.size :: G2) g (.slice D0 x0.length p0) x0 sz (.slice D2 other.length p2) other 5 fuse a3 false) := ⟨(HD5.out.more (.cells #[.slice none 0 0, .int .i64 0, .slice none 0 0, .int .i64 0, .int .i64 0, .int .i64 0, .bool false] 74)).drew⟩
          have HZB : Aside0 (Dvar (w1.alloc (.cells #[.slice none 0 0, .int .i64 0, .slice none 0 0, .int .i64 0, .int .i64 0, .int .i64 0, .bool false] 74)).drew (w1.heap.size :: G2) w1.heap.size (.slice none 0 0) [] 0 (.slice none 0 0) [] 0 0 0 false) := ⟨(Dvar.mk' (s0 := 0) (s1 := 0) (fu := 0) (ke := 0) (dn := false) HD5.out.lt (Kd.V_nil (Kd.int .u8) 5 _ 0 _) (Kd.V_nil (Kd.int .u8) 5 _ 0 _)).drew⟩
          have HBA := Aside0.mk (below_drew1 HBr.out)
          have HBB := Aside0.mk (below_drew1 (below_alloc HBr.out (.cells #[.slice none 0 0, .int .i64 0, .slice none 0 0, .int .i64 0, .int .i64 0, .int .i64 0, .bool false] 74)))
          have HRA := Aside0.mk (Kd.C_below HCB1.out (below_drew1 (Below.refl w1.heap.size w1)))
          have HRB := Aside0.mk (Kd.C_below HCB1.out (below_drew1 (below_alloc (Below.refl w1.heap.size w1) (.cells #[.slice none 0 0, .int .i64 0, .slice none 0 0, .int .i64 0, .int .i64 0, .int .i64 0, .bool false] 74))))
          go_region_with (go_at_call 55; first | ((with_reducible refine Calls.mono (disk_Write.calls (fun k => k ∉ G2) _ _ x0 sz (fun k => k ∉ G2) _ _ other 5 fuse a3 false 0 _ _ b z0 t0 other 5 fu a3 dn2 e2 w1.drew (Dvar.any HCA.out.r0) (Dvar.any HCA.out.r1) HRA.out HLB.out HF.out) ?_); rintro e w5 ⟨v0, v2, rfl, h0, h2, hb⟩; obtain ⟨X0, p0, rfl⟩ := Kd.V_slice h0; obtain ⟨X2, p2, rfl⟩ := Kd.V_slice h2; have HD3 := Aside0.mk (HCA.out.below hb); have HX0 := Aside0.mk (Dvar.res HCA.out.lt h0); have HX2 := Aside0.mk (Dvar.res HCA.out.lt h2); have HB5 := Aside0.mk (below_step HBA.out hb); clear h0 h2 hb) | ((with_reducible refine Calls.mono (disk_Write.calls (fun k => k ∉ (w1.heap.size :: G2)) _ _ x0 sz (fun k => k ∉ (w1.heap.size :: G2)) _ _ other 5 fuse a3 false 0 _ _ b z0 t0 other 5 fu a3 dn2 e2 (w1.alloc (.cells #[.slice none 0 0, .int .i64 0, .slice none 0 0, .int .i64 0, .int .i64 0, .int .i64 0, .bool false] 74)).drew (Dvar.any HCB.out.r0) (Dvar.any HCB.out.r1) HRB.out HLB.out HF.out) ?_); rintro e w5 ⟨v0, v2, rfl, h0, h2, hb⟩; obtain ⟨X0, p0, rfl⟩ := Kd.V_slice h0; obtain ⟨X2, p2, rfl⟩ := Kd.V_slice h2; have HD3 := Aside0.mk (HCB.out.below hb); have HX0 := Aside0.mk (Dvar.res HCB.out.lt h0); have HX2 := Aside0.mk (Dvar.res HCB.out.lt h2); have HB5 := Aside0.mk (below_step HBB.out hb); have hz9 := HZB.out.below hb; have HZ3 := Aside0.mk hz9; have zz0 := (blk_cell hz9.b 0).trans rfl; have fzz0 := blk_frozen hz9.b 0; have zz1 := (blk_cell hz9.b 1).trans rfl; have fzz1 := blk_frozen hz9.b 1; have zz2 := (blk_cell hz9.b 2).trans rfl; have fzz2 := blk_frozen hz9.b 2; have zz3 := (blk_cell hz9.b 3).trans rfl; have fzz3 := blk_frozen hz9.b 3; have zz4 := (blk_cell hz9.b 4).trans rfl; have fzz4 := blk_frozen hz9.b 4; have zz5 := (blk_cell hz9.b 5).trans rfl; have fzz5 := blk_frozen hz9.b 5; have zz6 := (blk_cell hz9.b 6).trans rfl; have fzz6 := blk_frozen hz9.b 6; clear hz9; clear h0 h2 hb))
          all_goals
            simp only [List.getElem_toArray, List.getElem_cons_succ, List.getElem_cons_zero, Act.put, List.setIfInBounds_toArray, List.set_cons_zero, List.set_cons_succ]
            go_wp2
            go_meet
            first
              | (with_reducible exact Nvar.A HD3.out HX0.out HX2.out HB5.out)
              | (with_reducible refine Nvar.B HD3.out HZ3.out HX0.out HX2.out HB5.out ?_ ?_); all_goals (have h1 := HNA.out; have h2 := HLE.out; omega)
        case rest =>
          obtain ⟨gx, X0, q0, X2, q2, rfl, rfl, hd, hx, hne, hb, hgx⟩ := hcut
          have HD6 := Aside0.mk hd
          have HX6 := Aside0.mk hx
          have HNE := Aside0.mk hne
          have HB6 := Aside0.mk (below_step HB5.out hb)
          have HAL6 := Aside0.mk (Kd.R_below HAL2.out hb)
          have HGX := Aside0.mk (Nat.le_trans HB5.out.size hgx)
          have qc0 := (blk_cell hd.b 0).trans rfl; have fqc0 := blk_frozen hd.b 0; have qc1 := (blk_cell hd.b 1).trans rfl; have fqc1 := blk_frozen hd.b 1; have qc2 := (blk_cell hd.b 2).trans rfl; have fqc2 := blk_frozen hd.b 2; have qc3 := (blk_cell hd.b 3).trans rfl; have fqc3 := blk_frozen hd.b 3; have qc4 := (blk_cell hd.b 4).trans rfl; have fqc4 := blk_frozen hd.b 4; have qc5 := (blk_cell hd.b 5).trans rfl; have fqc5 := blk_frozen hd.b 5; have qc6 := (blk_cell hd.b 6).trans rfl; have fqc6 := blk_frozen hd.b 6; have qx0 := (blk_cell hx.b 0).trans rfl; have fqx0 := blk_frozen hx.b 0; have qx1 := (blk_cell hx.b 1).trans rfl; have fqx1 := blk_frozen hx.b 1; have qx2 := (blk_cell hx.b 2).trans rfl; have fqx2 := blk_frozen hx.b 2; have qx3 := (blk_cell hx.b 3).trans rfl; have fqx3 := blk_frozen hx.b 3; have qx4 := (blk_cell hx.b 4).trans rfl; have fqx4 := blk_frozen hx.b 4; have qx5 := (blk_cell hx.b 5).trans rfl; have fqx5 := blk_frozen hx.b 5; have qx6 := (blk_cell hx.b 6).trans rfl; have fqx6 := blk_frozen hx.b 6
          clear qb0 fqb0 qb1 fqb1 qb2 fqb2 qb3 fqb3 qb4 fqb4 qb5 fqb5 qb6 fqb6
          clear hd hx hne hb hgx hcw1 hzb hzg HBr HCB1 HD5 HAL2
          obtain ⟨bd, e1, hbc⟩ := Kd.at_bool (Kd.C_below HR1.out HB6.out) (i : Int) (by omega) (by have := HLT.out; have := HL1.out; omega)
          subst e1
          rw [Int.toNat_natCast] at hbc
          generalize rdOf false bs (i : Int) = sy at hbc
          have bl4 : (i < bs.length) = True := eq_true (by have := HLT.out; have := HL1.out; omega)
          rcases HCS.out with ⟨rfl, rfl⟩ | ⟨rfl, rfl⟩
          · have HW1 := Aside0.mk (show wrap64 ((i : Int) + 1) = ((i + 1 : Nat) : Int) by have := HL.out; have := HLT.out; unfold wrap64; omega)
            go_wp2
            obtain ⟨k2, hk2⟩ : ∃ k2, gk = k2 + 1 := ⟨gk - 1, by have := HK1.out; have := HLT.out; omega⟩
            subst hk2
            go_roundg k2
            case measure => have := HK2.out; omega
            case rel => exact ⟨i + 1, al2, Ac, cc, sure, z0, t0, fu, true, X0, q0, X2, q2, gx :: G2, rfl, rfl, congrArg (Value.int .i64) HW1.out, HLT.out, by have := HAL0.out; rw [HY.out, List.length_append]; have := HB3.out; omega, by have := HK1.out; omega, by have := HK2.out; omega, HI2.out, HD6.out.put7 HX6.out.r0 HX6.out.r1, (fun k hk => List.mem_cons_of_mem _ (HOWN2.out k hk)), kp.r7 HAL6.out HD6.out.b _ _ _ _ _ _ _, Dvar.b7 HB6.out HG.out⟩
          · cases sy with
            | false =>
              have HW1 := Aside0.mk (show wrap64 ((i : Int) + 1) = ((i + 1 : Nat) : Int) by have := HL.out; have := HLT.out; unfold wrap64; omega)
              go_wp2
              obtain ⟨k2, hk2⟩ : ∃ k2, gk = k2 + 1 := ⟨gk - 1, by have := HK1.out; have := HLT.out; omega⟩
              subst hk2
              go_roundg k2
              case measure => have := HK2.out; omega
              case rel => exact ⟨i + 1, al2, Ac, cc, sure, z0, t0, fu, false, X0, q0, X2, q2, gx :: G2, rfl, rfl, congrArg (Value.int .i64) HW1.out, HLT.out, by have := HAL0.out; rw [HY.out, List.length_append]; have := HB3.out; omega, by have := HK1.out; omega, by have := HK2.out; omega, HI2.out, HD6.out.put7 HX6.out.r0 HX6.out.r1, (fun k hk => List.mem_cons_of_mem _ (HOWN2.out k hk)), kp.r7 HAL6.out HD6.out.b _ _ _ _ _ _ _, Dvar.b7 HB6.out HG.out⟩
            | true =>
              obtain ⟨y0, u0, fv, dn3, e3, F, hcase⟩ := kp.sync HI2.out (by have := HAL0.out; have := HB3.out; have := HLT.out; have := HL.out; rw [HY.out, List.length_append]; omega)
              have HF3 := Aside0.mk F
              have HCS3 := Aside0.mk hcase
              clear F hcase
              go_upto_region 21 with (go_at_call 56; refine Calls.mono (disk_Sync.calls (fun k => k ∉ gx :: G2) _ _ z0 t0 (fun k => k ∉ gx :: G2) _ _ other 5 fu a3 false 0 y0 u0 other 5 fv a3 dn3 e3 _ (Dvar.any HX6.out.r0) (Dvar.any HX6.out.r1) HF3.out) ?_; rintro e w7 ⟨v0, v2, rfl, h0, h2, hb⟩; obtain ⟨Y0, r0, rfl⟩ := Kd.V_slice h0; obtain ⟨Y2, r2, rfl⟩ := Kd.V_slice h2; have hd := HX6.out.below hb; have HX7 := Aside0.mk (Dvar.put7 (t0 := u0) (t1 := 5) (fu' := fv) (ke' := a3) (dn' := dn3) hd (Dvar.res HX6.out.lt h0) (Dvar.res HX6.out.lt h2)); have HD7 := Aside0.mk ((HD6.out.below hb).far7 (a := (.slice Y0 y0.length r0)) (b := (.int .i64 u0)) (c := (.slice Y2 other.length r2)) (e := (.int .i64 5)) (f := (.int .i64 fv)) (x := (.int .i64 a3)) (y := (.bool dn3)) hd.m (Ne.symm HNE.out)); have HB7 := Aside0.mk (Dvar.b7 (a := (.slice Y0 y0.length r0)) (b := (.int .i64 u0)) (c := (.slice Y2 other.length r2)) (e := (.int .i64 5)) (f := (.int .i64 fv)) (x := (.int .i64 a3)) (y := (.bool dn3)) (below_step HB6.out hb) HGX.out); have HAL7 := Aside0.mk (kp.r7 (Kd.R_below HAL6.out hb) hd.b (.slice Y0 y0.length r0) (.int .i64 u0) (.slice Y2 other.length r2) (.int .i64 5) (.int .i64 fv) (.int .i64 a3) (.bool dn3)); have qd0 := (blk_cell hd.b 0).trans rfl; have fqd0 := blk_frozen hd.b 0; have qd1 := (blk_cell hd.b 1).trans rfl; have fqd1 := blk_frozen hd.b 1; have qd2 := (blk_cell hd.b 2).trans rfl; have fqd2 := blk_frozen hd.b 2; have qd3 := (blk_cell hd.b 3).trans rfl; have fqd3 := blk_frozen hd.b 3; have qd4 := (blk_cell hd.b 4).trans rfl; have fqd4 := blk_frozen hd.b 4; have qd5 := (blk_cell hd.b 5).trans rfl; have fqd5 := blk_frozen hd.b 5; have qd6 := (blk_cell hd.b 6).trans rfl; have fqd6 := blk_frozen hd.b 6; clear h0 h2 hb hd)
              clear qc0 fqc0 qc1 fqc1 qc2 fqc2 qc3 fqc3 qc4 fqc4 qc5 fqc5 qc6 fqc6; clear qx0 fqx0 qx1 fqx1 qx2 fqx2 qx3 fqx3 qx4 fqx4 qx5 fqx5 qx6 fqx6; clear qd0 fqd0 qd1 fqd1 qd2 fqd2 qd3 fqd3 qd4 fqd4 qd5 fqd5 qd6 fqd6
              generalize ((((((w7.setCell ⟨gx, 0, none⟩ (.slice Y0 y0.length r0)).setCell ⟨gx, 1, none⟩ (.int .i64 u0)).setCell ⟨gx, 2, none⟩ (.slice Y2 other.length r2)).setCell ⟨gx, 3, none⟩ (.int .i64 5)).setCell ⟨gx, 4, none⟩ (.int .i64 fv)).setCell ⟨gx, 5, none⟩ (.int .i64 a3)).setCell ⟨gx, 6, none⟩ (.bool dn3) = W9 at HX7 HD7 HB7 HAL7 ⊢
              clear HX6 HD6 HB6 HAL6
              have qe0 := (blk_cell HX7.out.b 0).trans rfl; have fqe0 := blk_frozen HX7.out.b 0; have qe1 := (blk_cell HX7.out.b 1).trans rfl; have fqe1 := blk_frozen HX7.out.b 1; have qe2 := (blk_cell HX7.out.b 2).trans rfl; have fqe2 := blk_frozen HX7.out.b 2; have qe3 := (blk_cell HX7.out.b 3).trans rfl; have fqe3 := blk_frozen HX7.out.b 3; have qe4 := (blk_cell HX7.out.b 4).trans rfl; have fqe4 := blk_frozen HX7.out.b 4; have qe5 := (blk_cell HX7.out.b 5).trans rfl; have fqe5 := blk_frozen HX7.out.b 5; have qe6 := (blk_cell HX7.out.b 6).trans rfl; have fqe6 := blk_frozen HX7.out.b 6; have qf0 := (blk_cell HD7.out.b 0).trans rfl; have fqf0 := blk_frozen HD7.out.b 0; have qf1 := (blk_cell HD7.out.b 1).trans rfl; have fqf1 := blk_frozen HD7.out.b 1; have qf2 := (blk_cell HD7.out.b 2).trans rfl; have fqf2 := blk_frozen HD7.out.b 2; have qf3 := (blk_cell HD7.out.b 3).trans rfl; have fqf3 := blk_frozen HD7.out.b 3; have qf4 := (blk_cell HD7.out.b 4).trans rfl; have fqf4 := blk_frozen HD7.out.b 4; have qf5 := (blk_cell HD7.out.b 5).trans rfl; have fqf5 := blk_frozen HD7.out.b 5; have qf6 := (blk_cell HD7.out.b 6).trans rfl; have fqf6 := blk_frozen HD7.out.b 6
              rcases HCS3.out with ⟨rfl, rfl, hI3⟩ | ⟨rfl, rfl, hI3⟩
              · have HI3 := Aside0.mk hI3
                clear hI3
                have HW1 := Aside0.mk (show wrap64 ((i : Int) + 1) = ((i + 1 : Nat) : Int) by have := HL.out; have := HLT.out; unfold wrap64; omega)
                go_wp2
                obtain ⟨k2, hk2⟩ : ∃ k2, gk = k2 + 1 := ⟨gk - 1, by have := HK1.out; have := HLT.out; omega⟩
                subst hk2
                go_roundg k2
                case measure => have := HK2.out; omega
                case rel => exact ⟨i + 1, al2, Ac, cc, sure, y0, u0, fv, true, Y0, r0, Y2, r2, gx :: G2, rfl, rfl, congrArg (Value.int .i64) HW1.out, HLT.out, by have := HAL0.out; rw [HY.out, List.length_append]; have := HB3.out; omega, by have := HK1.out; omega, by have := HK2.out; omega, HI3.out, HD7.out.put7 HX7.out.r0 HX7.out.r1, (fun k hk => List.mem_cons_of_mem _ (HOWN2.out k hk)), kp.r7 HAL7.out HD7.out.b _ _ _ _ _ _ _, Dvar.b7 HB7.out HG.out⟩
              · have HI3 := Aside0.mk hI3
                clear hI3
                have HW1 := Aside0.mk (show wrap64 ((i : Int) + 1) = ((i + 1 : Nat) : Int) by have := HL.out; have := HLT.out; unfold wrap64; omega)
                go_wp2
                obtain ⟨k2, hk2⟩ : ∃ k2, gk = k2 + 1 := ⟨gk - 1, by have := HK1.out; have := HLT.out; omega⟩
                subst hk2
                go_roundg k2
                case measure => have := HK2.out; omega
                case rel => exact ⟨i + 1, al2, Ac, cc, (al2.length : Int), y0, u0, fv, false, Y0, r0, Y2, r2, gx :: G2, rfl, rfl, congrArg (Value.int .i64) HW1.out, HLT.out, by have := HAL0.out; rw [HY.out, List.length_append]; have := HB3.out; omega, by have := HK1.out; omega, by have := HK2.out; omega, HI3.out, HD7.out.put7 HX7.out.r0 HX7.out.r1, (fun k hk => List.mem_cons_of_mem _ (HOWN2.out k hk)), kp.r7 HAL7.out HD7.out.b _ _ _ _ _ _ _, Dvar.b7 HB7.out HG.out⟩
    · have PK3 : (dn = true ∧ i < ls.length) ∨ (dn = true ∧ ¬ i < ls.length) ∨ (dn = false ∧ ¬ i < ls.length) := by
        cases dn with
        | true => rcases Nat.lt_or_ge i ls.length with h | h; exact .inl ⟨rfl, h⟩; exact .inr (.inl ⟨rfl, by omega⟩)
        | false => exact .inr (.inr ⟨rfl, fun h => hx ⟨rfl, h⟩⟩)
      clear hx
      rcases PK3 with ⟨rfl, h⟩ | ⟨rfl, h⟩ | ⟨rfl, h⟩
      all_goals first
        | (have bl : decide (i < ls.length) = true := decide_eq_true h
           have bl2 : decide ((i : Int) < (ls.length : Int)) = true := decide_eq_true (by omega)
           clear h
           have PK := Aside0.mk (PKA.mk' HD4.out HI.out HALL.out HBB.out)
           go_upto_region 31 with fail
           clear qa0 fqa0 qa1 fqa1 qa2 fqa2 qa3 fqa3 qa4 fqa4 qa5 fqa5 qa6 fqa6)
        | (have bl : decide (i < ls.length) = false := decide_eq_false h
           have bl2 : decide ((i : Int) < (ls.length : Int)) = false := decide_eq_false (by omega)
           clear h
           have PK := Aside0.mk (PKA.mk' HD4.out HI.out HALL.out HBB.out)
           go_upto_region 31 with fail
           clear qa0 fqa0 qa1 fqa1 qa2 fqa2 qa3 fqa3 qa4 fqa4 qa5 fqa5 qa6 fqa6)
        | (have bl : decide (i < ls.length) = false := decide_eq_false h
           have bl2 : decide ((i : Int) < (ls.length : Int)) = false := decide_eq_false (by omega)
           clear h
           obtain ⟨z0, t0, F, hI5⟩ := kp.crash HI.out (by have := HAL0.out; have := HI9.out; have := HL.out; omega)
           have HF5 := Aside0.mk F
           have HI5 := Aside0.mk hI5
           clear F hI5
           go_upto_region 28 with (go_at_call 57; refine Calls.mono (disk_Crash.calls 1 (fun k => k ∉ G) _ _ x0 sz (fun k => k ∉ G) _ _ other 5 fuse a3 false a3 z0 t0 other 5 (-1) a3 true 0 _ (Dvar.any HD4.out.r0) (Dvar.any HD4.out.r1) HF5.out) ?_; rintro e w5 ⟨v0, v2, rfl, h0, h2, hb⟩; obtain ⟨X0, q0, rfl⟩ := Kd.V_slice h0; obtain ⟨X2, q2, rfl⟩ := Kd.V_slice h2; have hd := HD4.out.below hb; have HDy := Aside0.mk (Dvar.mk' (s0 := t0) (s1 := 5) (fu := -1) (ke := a3) (dn := true) hd.lt (Dvar.res HD4.out.lt h0) (Dvar.res HD4.out.lt h2)); have HDg := Aside0.mk (hd.more (.cells #[.slice X0 z0.length q0, .int .i64 t0, .slice X2 other.length q2, .int .i64 5, .int .i64 (-1), .int .i64 a3, .bool true] 74)); have HBy := Aside0.mk (below_alloc (below_step HBB.out hb) (.cells #[.slice X0 z0.length q0, .int .i64 t0, .slice X2 other.length q2, .int .i64 5, .int .i64 (-1), .int .i64 a3, .bool true] 74)); have HALy := Aside0.mk (Kd.R_alloc (Kd.R_below HALL.out hb) (.cells #[.slice X0 z0.length q0, .int .i64 t0, .slice X2 other.length q2, .int .i64 5, .int .i64 (-1), .int .i64 a3, .bool true] 74)); clear h0 h2 hb hd)
           generalize w5.alloc (.cells #[.slice X0 z0.length q0, .int .i64 t0, .slice X2 other.length q2, .int .i64 5, .int .i64 (-1), .int .i64 a3, .bool true] 74) = W6 at HDy HDg HBy HALy ⊢
           generalize w5.heap.size = gy at HDy HDg ⊢
           clear qa0 fqa0 qa1 fqa1 qa2 fqa2 qa3 fqa3 qa4 fqa4 qa5 fqa5 qa6 fqa6
           have qy0 := (blk_cell HDy.out.b 0).trans rfl; have fqy0 := blk_frozen HDy.out.b 0; have qy1 := (blk_cell HDy.out.b 1).trans rfl; have fqy1 := blk_frozen HDy.out.b 1; have qy2 := (blk_cell HDy.out.b 2).trans rfl; have fqy2 := blk_frozen HDy.out.b 2; have qy3 := (blk_cell HDy.out.b 3).trans rfl; have fqy3 := blk_frozen HDy.out.b 3; have qy4 := (blk_cell HDy.out.b 4).trans rfl; have fqy4 := blk_frozen HDy.out.b 4; have qy5 := (blk_cell HDy.out.b 5).trans rfl; have fqy5 := blk_frozen HDy.out.b 5; have qy6 := (blk_cell HDy.out.b 6).trans rfl; have fqy6 := blk_frozen HDy.out.b 6
           have qg0 := (blk_cell HDg.out.b 0).trans rfl; have fqg0 := blk_frozen HDg.out.b 0; have qg1 := (blk_cell HDg.out.b 1).trans rfl; have fqg1 := blk_frozen HDg.out.b 1; have qg2 := (blk_cell HDg.out.b 2).trans rfl; have fqg2 := blk_frozen HDg.out.b 2; have qg3 := (blk_cell HDg.out.b 3).trans rfl; have fqg3 := blk_frozen HDg.out.b 3; have qg4 := (blk_cell HDg.out.b 4).trans rfl; have fqg4 := blk_frozen HDg.out.b 4; have qg5 := (blk_cell HDg.out.b 5).trans rfl; have fqg5 := blk_frozen HDg.out.b 5; have qg6 := (blk_cell HDg.out.b 6).trans rfl; have fqg6 := blk_frozen HDg.out.b 6
           go_upto_region 31 with fail
           have PK := Aside0.mk (PKA.mk' (HDg.out.put7 (t0 := t0) (t1 := 5) (fu' := -1) (ke' := a3) (dn' := true) HDy.out.r0 HDy.out.r1) HI5.out (kp.r7 HALy.out HDg.out.b _ _ _ _ _ _ _) (Dvar.b7 HBy.out HG.out))
           clear qy0 fqy0 qy1 fqy1 qy2 fqy2 qy3 fqy3 qy4 fqy4 qy5 fqy5 qy6 fqy6
           clear qg0 fqg0 qg1 fqg1 qg2 fqg2 qg3 fqg3 qg4 fqg4 qg5 fqg5 qg6 fqg6
           generalize ((((((W6.setCell ⟨g, 0, none⟩ (.slice X0 z0.length q0)).setCell ⟨g, 1, none⟩ (.int .i64 t0)).setCell ⟨g, 2, none⟩ (.slice X2 other.length q2)).setCell ⟨g, 3, none⟩ (.int .i64 5)).setCell ⟨g, 4, none⟩ (.int .i64 (-1))).setCell ⟨g, 5, none⟩ (.int .i64 a3)).setCell ⟨g, 6, none⟩ (.bool true) = W7y at PK ⊢
           clear HDy HDg HBy HALy)
      all_goals
        obtain ⟨x0, sz, fuse, D0, p0, D2, p2, G, hD, hI, hR, hB⟩ := PK.out
        clear PK
        have HDw := Aside0.mk hD
        have HALw := Aside0.mk hR
        have HBw := Aside0.mk hB
        have qw0 := (blk_cell hD.b 0).trans rfl; have fqw0 := blk_frozen hD.b 0; have qw1 := (blk_cell hD.b 1).trans rfl; have fqw1 := blk_frozen hD.b 1; have qw2 := (blk_cell hD.b 2).trans rfl; have fqw2 := blk_frozen hD.b 2; have qw3 := (blk_cell hD.b 3).trans rfl; have fqw3 := blk_frozen hD.b 3; have qw4 := (blk_cell hD.b 4).trans rfl; have fqw4 := blk_frozen hD.b 4; have qw5 := (blk_cell hD.b 5).trans rfl; have fqw5 := blk_frozen hD.b 5; have qw6 := (blk_cell hD.b 6).trans rfl; have fqw6 := blk_frozen hD.b 6
        obtain ⟨hfr, hft, hs0, hsu, hle, hpre⟩ := kp.rise hI (by have := HAL0.out; have := HI9.out; have := HL.out; omega)
        clear hI hR hB hD
        obtain ⟨t271, h271⟩ : ∃ t : Int, t = 0 := ⟨_, rfl⟩
        obtain ⟨t263, h263⟩ : ∃ t : Int, t = (x0.length : Int) := ⟨_, rfl⟩
        obtain rfl : t263 = sz := h263.trans hs0.symm
        have hfr2 : disk_Rise.f x0 t263 other 5 fuse a3 true = some (x0, t263, other, 5, fuse, a3, false, t271) := by rw [h271]; exact hfr
        have HFR := Aside0.mk hfr2
        have HFT := Aside0.mk hft
        have HS63 := Aside0.mk (show (t263 == (x0.length : Int)) = true from beq_iff_eq.mpr hs0)
        have c99b0 : decide (sure ≤ (x0.length : Int)) = true := decide_eq_true hsu
        have c100b0 : decide ((x0.length : Int) ≤ (all.length : Int)) = true := decide_eq_true (by omega)
        have c100b1 : decide (x0.length ≤ all.length) = true := decide_eq_true hle
        have c101b0 : (0 ≤ (x0.length : Int)) = True := eq_true (by omega)
        have c102b0 : ((x0.length : Int) ≤ (all.length : Int)) = True := eq_true (by omega)
        have c96b0 : (t271 == 0) = true := beq_iff_eq.mpr h271
        have c96b1 : (t271 != 0) = false := bne_eq_false_iff_eq.mpr h271
        have c104b0 : ((strOfNums other).toList == ([111, 116, 104, 101, 114] : List UInt8)) = true := beq_iff_eq.mpr other_str
        have c104b1 : ((strOfNums other).toList != ([111, 116, 104, 101, 114] : List UInt8)) = false := bne_eq_false_iff_eq.mpr other_str
        obtain ⟨y273, hy273⟩ : ∃ y : List Int, y = all.take ((x0.length : Int) : Int).toNat := ⟨_, rfl⟩
        have hyx : x0 = y273 := by rw [hy273, Int.toNat_natCast]; exact hpre
        have c103b0 : ((strOfNums x0).toList == (strOfNums y273).toList) = true := by rw [← hyx]; exact beq_self_eq_true _
        have c103b1 : ((strOfNums x0).toList != (strOfNums y273).toList) = false := by rw [← hyx]; exact bne_self_eq_false _
        have KL112 := Aside0.mk (show ((x0.length : Int) : Int).toNat ≤ all.length by omega)
        obtain ⟨i0, hi0, _, _, _⟩ := info_parts info5
        have hcut := cut_to (P := Try.prog) 22 5 .i64 Try.underlying22 hi0 Aa all.length ca (x0.length : Int) (by omega) (by omega) (Kd.R_reads' HALw.out).2.1
        have hq : y273.length = ((x0.length : Int) : Int).toNat := by rw [hy273, List.length_take]; omega
        rw [← hq] at hcut
        have Ny273 := Aside0.mk hy273
        clear hy273 hyx hq hi0 hfr hfr2 hft hs0 h263 h271 hsu hle hpre
        go_upto_region 32 with (go_at_call 58; refine Calls.mono (disk_Rise.calls (fun k => k ∉ G) _ _ x0 t263 (fun k => k ∉ G) _ _ other 5 fuse a3 true x0 t263 other 5 fuse a3 false t271 _ (Dvar.any HDw.out.r0) (Dvar.any HDw.out.r1) HFR.out) ?_; rintro e w8 ⟨v0, v2, rfl, h0, h2, hb⟩; obtain ⟨E0, m0, rfl⟩ := Kd.V_slice h0; obtain ⟨E2, m2, rfl⟩ := Kd.V_slice h2; have hd := HDw.out.below hb; have HD8 := Aside0.mk (Dvar.put7 (t0 := t263) (t1 := 5) (fu' := fuse) (ke' := a3) (dn' := false) hd (Dvar.res HDw.out.lt h0) (Dvar.res HDw.out.lt h2)); have HB8x := Aside0.mk (Dvar.b7 (a := (.slice E0 x0.length m0)) (b := (.int .i64 t263)) (c := (.slice E2 other.length m2)) (e := (.int .i64 5)) (f := (.int .i64 fuse)) (x := (.int .i64 a3)) (y := (.bool false)) (below_step HBw.out hb) HG.out); have HAL8 := Aside0.mk (kp.r7 (Kd.R_below HALw.out hb) hd.b (.slice E0 x0.length m0) (.int .i64 t263) (.slice E2 other.length m2) (.int .i64 5) (.int .i64 fuse) (.int .i64 a3) (.bool false)); have qr0 := (blk_cell hd.b 0).trans rfl; have fqr0 := blk_frozen hd.b 0; have qr1 := (blk_cell hd.b 1).trans rfl; have fqr1 := blk_frozen hd.b 1; have qr2 := (blk_cell hd.b 2).trans rfl; have fqr2 := blk_frozen hd.b 2; have qr3 := (blk_cell hd.b 3).trans rfl; have fqr3 := blk_frozen hd.b 3; have qr4 := (blk_cell hd.b 4).trans rfl; have fqr4 := blk_frozen hd.b 4; have qr5 := (blk_cell hd.b 5).trans rfl; have fqr5 := blk_frozen hd.b 5; have qr6 := (blk_cell hd.b 6).trans rfl; have fqr6 := blk_frozen hd.b 6; clear h0 h2 hb hd)
        clear qw0 fqw0 qw1 fqw1 qw2 fqw2 qw3 fqw3 qw4 fqw4 qw5 fqw5 qw6 fqw6
        clear qr0 fqr0 qr1 fqr1 qr2 fqr2 qr3 fqr3 qr4 fqr4 qr5 fqr5 qr6 fqr6
        generalize ((((((w8.setCell ⟨g, 0, none⟩ (.slice E0 x0.length m0)).setCell ⟨g, 1, none⟩ (.int .i64 t263)).setCell ⟨g, 2, none⟩ (.slice E2 other.length m2)).setCell ⟨g, 3, none⟩ (.int .i64 5)).setCell ⟨g, 4, none⟩ (.int .i64 fuse)).setCell ⟨g, 5, none⟩ (.int .i64 a3)).setCell ⟨g, 6, none⟩ (.bool false) = W10 at HD8 HB8x HAL8 ⊢
        clear HDw HALw HBw
        have qs0 := (blk_cell HD8.out.b 0).trans rfl
        go_upto_region 33 with fail
        clear qs0
        have HO262 : Aside0 (Kd.V (Kd.int .u8) 5 W10.drew w.heap.size (fun _ => True) (.slice E0 x0.length m0) x0) := ⟨Dvar.any (Kd.V_drew (Kd.V_mono HD8.out.r0 (fun _ _ => trivial)))⟩
        have HO266 : Aside0 (Kd.V (Kd.int .u8) 5 W10.drew w.heap.size (fun _ => True) (.slice E2 other.length m2) other) := ⟨Dvar.any (Kd.V_drew (Kd.V_mono HD8.out.r1 (fun _ _ => trivial)))⟩
        have HO_12 := Aside0.mk (Kd.R_drew HAL8.out)
        have BK215 := Aside0.mk (blk_drew HD8.out.b)
        have HB := Aside0.mk (below_drew1 HB8x.out)
        clear HD8 HAL8 HB8x
        refine start_ (n := 47) (S := fun w' => True) (ds := []) #[false, false, false, false, false, false, false, false, false, false, false, false, false, false, false, false, false, false, false, false, false, false, false, false, false, false, false, false, false, false, false, false, false, false, false, false, false, false, false, false, false, false, false, false, false, false, false] (by kernel_rfl) rfl rfl trivial (fun hHeld => ?_); refine with_tabW kp.tab33 kp.bits33 (fun HT_ HW_ => ?_)
        generalize W10.drew = w116 at HO_12 HO262 HO266 BK215 HB hHeld ⊢
        refine pv_ 0 142 (rA [1,46]) HT_ ?_; refine inv_at [1, 2, 3, 4, 5, 6, 7, 8, 9, 10, 11, 12, 13, 14, 15, 16, 17, 18, 19, 20, 21, 22, 23, 24, 25, 26, 27, 28, 29, 30, 31, 32, 33, 34, 35, 36, 37, 38, 39, 40, 41, 42, 43, 44, 45, 46] (fun a0_ b a w' => a = putSel a0_ b [(1, 143, .bool (t271 == 0)), (2, 144, .bool (t271 == 0)), (3, 145, .agg #[.slice E0 x0.length m0, .int .i64 t263, .slice E2 other.length m2, .int .i64 5, .int .i64 fuse, .int .i64 a3, .bool false]), (4, 146, .bool true), (5, 147, .bool true), (6, 148, .bool true), (7, 149, .slice E0 x0.length m0), (8, 150, .int .i64 (x0.length : Int)), (9, 151, .int .i64 sure), (10, 152, .bool (decide ((x0.length : Int) ≥ sure))), (11, 153, .bool (decide ((x0.length : Int) ≥ sure))), (12, 154, .bool (decide ((x0.length : Int) ≥ sure))), (13, 155, .slice E0 x0.length m0), (14, 156, .int .i64 (x0.length : Int)), (15, 157, .slice Aa all.length ca), (16, 158, .int .i64 (all.length : Int)), (17, 159, .bool (decide ((x0.length : Int) ≤ (all.length : Int)))), (18, 160, .bool (decide ((x0.length : Int) ≤ (all.length : Int)))), (19, 161, .bool (decide ((x0.length : Int) ≤ (all.length : Int)))), (20, 162, .slice E0 x0.length m0), (21, 163, .string (strOfNums x0)), (22, 164, .slice Aa all.length ca), (23, 165, .slice E0 x0.length m0), (24, 166, .int .i64 (x0.length : Int)), (25, 167, .slice Aa y273.length ca), (26, 168, .string (strOfNums y273)), (27, 169, .bool ((strOfNums x0).toList == (strOfNums y273).toList)), (28, 170, .bool ((strOfNums x0).toList == (strOfNums y273).toList)), (29, 171, .bool ((strOfNums x0).toList == (strOfNums y273).toList)), (30, 172, .pointer (some ⟨g, 0, none⟩)), (31, 173, .pointer (some ⟨g, 2, none⟩)), (32, 174, .pointer (some ⟨g, 2, none⟩)), (33, 175, .slice E2 other.length m2), (34, 176, .string (strOfNums other)), (35, 177, .bool ((strOfNums other).toList == ([111, 116, 104, 101, 114] : List UInt8))), (36, 178, .bool ((strOfNums other).toList == ([111, 116, 104, 101, 114] : List UInt8))), (37, 179, .bool ((strOfNums other).toList == ([111, 116, 104, 101, 114] : List UInt8))), (38, 180, .pointer (some ⟨g, 0, none⟩)), (39, 181, .pointer (some ⟨g, 0, none⟩)), (40, 182, .pointer (some ⟨g, 1, none⟩)), (41, 183, .int .i64 t263), (42, 184, .slice E0 x0.length m0), (43, 185, .int .i64 (x0.length : Int)), (44, 186, .bool (t263 == (x0.length : Int))), (45, 187, .bool (t263 == (x0.length : Int))), (46, 8, .bool (t263 == (x0.length : Int)))] ∧ (Kd.V (Kd.int .u8) 5 w' w.heap.size (fun _ => True) (.slice E0 x0.length m0) x0) ∧ (Kd.V (Kd.int .u8) 5 w' w.heap.size (fun _ => True) (.slice E2 other.length m2) other) ∧ (Kd.R (Kd.int .u8) 5 w' w.heap.size (fun _ => True) (.slice Aa all.length ca) all) ∧ (w'.heap[g]? = some (.cells #[.slice E0 x0.length m0, .int .i64 t263, .slice E2 other.length m2, .int .i64 5, .int .i64 fuse, .int .i64 a3, .bool false] 74 (0, 0))) ∧ (Below w.heap.size w w')) HT_.out HW_.out (by kernel_rfl) (by kernel_rfl) ?_ ?_ ?_
        ·exact ⟨by simp only [putSel, Bool.false_eq_true, if_false], HO262.out, HO266.out, HO_12.out, BK215.out, HB.out⟩
        ·skip
         clear BK215 HB HO262 HO266 HO_12; refine steps_cons ?_ ?_
         ·rintro b a w' ⟨ha, hI_⟩ hb_ hon hoff
          refine ⟨_, rfl, fun K hK => ?_⟩; have e142 : a.tmps[142]? = some (.int .i64 t271) := by rw [ha]; exact (putSel_off rfl).trans rfl
          replace ha := aM ha; replace hI_ := aM hI_; refine value_ (w1 := w') (v := .bool (t271 == 0)) (by rfl) rfl ?_ ?_
          ·go_simp
           (try simp only [i64_w])
           try first | rfl | (simp [bne]; done)
          refine hK.out _ _ ⟨(by rw [ha.out]; exact putSel_upk 0 hb_ rfl rfl rfl), hI_.out⟩
         refine steps_cons ?_ ?_
         ·rintro b a w' ⟨ha, hI_⟩ hb_ hon hoff
          refine ⟨_, rfl, fun K hK => ?_⟩; have e143 : a.tmps[143]? = some (.bool (t271 == 0)) := by rw [ha]; exact putSel_on (e := (1, 143, .bool (t271 == 0))) 0 rfl rfl (hon 1 (by kernel_rfl)) rfl
          replace ha := aM ha; replace hI_ := aM hI_; refine value_ (w1 := w') (v := .bool (t271 == 0)) (by rfl) rfl ?_ ?_
          ·go_simp
           (try simp only [i64_w])
           try first | rfl | (simp [bne]; done)
          refine hK.out _ _ ⟨(by rw [ha.out]; exact putSel_upk 1 hb_ rfl rfl rfl), hI_.out⟩
         refine steps_cons ?_ ?_
         ·rintro b a w' ⟨ha, Q_HO262, Q_HO266, Q_HO_12, Q_BK215, Q_HB⟩ hb_ hon hoff
          refine ⟨_, rfl, fun K hK => ?_⟩; have e9 : a.tmps[9]? = some (.pointer (some ⟨g, 0, none⟩)) := by rw [ha]; exact (putSel_off rfl).trans rfl
          have e144 : a.tmps[144]? = some (.bool (t271 == 0)) := by rw [ha]; exact putSel_on (e := (2, 144, .bool (t271 == 0))) 1 rfl rfl (hon 2 (by kernel_rfl)) rfl
          replace ha := aM ha; have HO262 := aM Q_HO262; have HO266 := aM Q_HO266; have HO_12 := aM Q_HO_12; have BK215 := aM Q_BK215; have HB := aM Q_HB; have hc0_ := cB BK215 0 (.slice E0 x0.length m0) rfl; have hc1_ := cB BK215 1 (.int .i64 t263) rfl; have hc2_ := cB BK215 2 (.slice E2 other.length m2) rfl; have hc3_ := cB BK215 3 (.int .i64 5) rfl; have hc4_ := cB BK215 4 (.int .i64 fuse) rfl; have hc5_ := cB BK215 5 (.int .i64 a3) rfl; have hc6_ := cB BK215 6 (.bool false) rfl; refine value_ (w1 := w') (v := .agg #[.slice E0 x0.length m0, .int .i64 t263, .slice E2 other.length m2, .int .i64 5, .int .i64 fuse, .int .i64 a3, .bool false]) (wanted_on rfl rfl rfl (e144.trans (by first | rfl | (simp [*]; done)))) rfl ?_ ?_
          ·go_simp
           (try simp only [i64_w])
           try first | rfl | (simp [bne]; done)
          refine hK.out _ _ ⟨(by rw [ha.out]; exact putSel_upk 2 hb_ rfl rfl rfl), Q_HO262, Q_HO266, Q_HO_12, Q_BK215, Q_HB⟩
         refine steps_cons ?_ ?_
         ·rintro b a w' ⟨ha, Q_HO262, Q_HO266, Q_HO_12, Q_BK215, Q_HB⟩ hb_ hon hoff
          refine ⟨_, rfl, fun K hK => ?_⟩; have e145 : a.tmps[145]? = some (.agg #[.slice E0 x0.length m0, .int .i64 t263, .slice E2 other.length m2, .int .i64 5, .int .i64 fuse, .int .i64 a3, .bool false]) := by rw [ha]; exact putSel_on (e := (3, 145, .agg #[.slice E0 x0.length m0, .int .i64 t263, .slice E2 other.length m2, .int .i64 5, .int .i64 fuse, .int .i64 a3, .bool false])) 2 rfl rfl (hon 3 (by kernel_rfl)) rfl
          have e144 : a.tmps[144]? = some (.bool (t271 == 0)) := by rw [ha]; exact putSel_on (e := (2, 144, .bool (t271 == 0))) 1 rfl rfl (hon 2 (by kernel_rfl)) rfl
          replace ha := aM ha; have HO262 := aM Q_HO262; have HO266 := aM Q_HO266; have HO_12 := aM Q_HO_12; have BK215 := aM Q_BK215; have HB := aM Q_HB; refine goes_ Try.func59 (by kernel_rfl) rfl #[.agg #[.slice E0 x0.length m0, .int .i64 t263, .slice E2 other.length m2, .int .i64 5, .int .i64 fuse, .int .i64 a3, .bool false]] (by first | rfl | (simp [Region.wanted, yielded, *]; done)) rfl rfl (by (try simp only [mT, mC, mN]); first | done | rfl | (simp only [Act.eval, gD, oG, e145]; done) | (simp only [List.length_drop, List.length_take]; rfl)) ?_
          with_reducible refine (disk_Right.calls _ _ x0 t263 _ _ other 5 fuse a3 false true _ ?side1 ?side2 ?side3 ?side4 HFT.out).mono ?_
          (case side1 => repeat (first | exact (Kd.V_reads' HO262.out).2.2 | (with_reducible refine Kd.C_alloc ?_ _) | (with_reducible refine Kd.C_drewN ?_ _) | (with_reducible refine Kd.C_drew ?_)))
          (case side2 => exact (Kd.V_reads' HO262.out).2.1)
          (case side3 => repeat (first | exact (Kd.V_reads' HO266.out).2.2 | (with_reducible refine Kd.C_alloc ?_ _) | (with_reducible refine Kd.C_drewN ?_ _) | (with_reducible refine Kd.C_drew ?_)))
          (case side4 => exact (Kd.V_reads' HO266.out).2.1)
          rintro e w114 ⟨rfl, hb⟩
          refine ⟨_, rfl, ?_⟩; have n0_ := rB HO_12 hb; have n3_ := vB HO262 hb; have n4_ := vB HO266 hb; have n5_ := bB BK215 hb; have n6_ := sB HB hb; clear HO_12; clear HO262; clear HO266; clear BK215; clear HB; have HO_12 := n0_; have HO262 := n3_; have HO266 := n4_; have BK215 := n5_; have HB := n6_; clear n0_ n3_ n4_ n5_ n6_; (try clear hb); (try clear hb2); (try clear hk); (try clear hi)
          refine hK.out _ _ ⟨(by rw [ha.out]; exact putSel_upk 3 hb_ rfl rfl rfl), (vG HO262), (vG HO266), (rG HO_12), (gB BK215), (sG HB)⟩
         refine steps_cons ?_ ?_
         ·rintro b a w' ⟨ha, hI_⟩ hb_ hon hoff
          refine ⟨_, rfl, fun K hK => ?_⟩; have e144 : a.tmps[144]? = some (.bool (t271 == 0)) := by rw [ha]; exact putSel_on (e := (2, 144, .bool (t271 == 0))) 1 rfl rfl (hon 2 (by kernel_rfl)) rfl
          have e146 : a.tmps[146]? = some (.bool true) := by rw [ha]; exact putSel_on (e := (4, 146, .bool true)) 3 rfl rfl (hon 4 (by kernel_rfl)) rfl
          replace ha := aM ha; replace hI_ := aM hI_; refine value_ (w1 := w') (v := .bool true) (by rfl) rfl ?_ ?_
          ·go_simp
           (try simp only [i64_w])
           try first | rfl | (simp [bne]; done)
          refine hK.out _ _ ⟨(by rw [ha.out]; exact putSel_upk 4 hb_ rfl rfl rfl), hI_.out⟩
         refine steps_cons ?_ ?_
         ·rintro b a w' ⟨ha, hI_⟩ hb_ hon hoff
          refine ⟨_, rfl, fun K hK => ?_⟩; have e147 : a.tmps[147]? = some (.bool true) := by rw [ha]; exact putSel_on (e := (5, 147, .bool true)) 4 rfl rfl (hon 5 (by kernel_rfl)) rfl
          replace ha := aM ha; replace hI_ := aM hI_; refine value_ (w1 := w') (v := .bool true) (by rfl) rfl ?_ ?_
          ·go_simp
           (try simp only [i64_w])
           try first | rfl | (simp [bne]; done)
          refine hK.out _ _ ⟨(by rw [ha.out]; exact putSel_upk 5 hb_ rfl rfl rfl), hI_.out⟩
         refine steps_cons ?_ ?_
         ·rintro b a w' ⟨ha, hI_⟩ hb_ hon hoff
          refine ⟨_, rfl, fun K hK => ?_⟩; have e20 : a.tmps[20]? = some (.slice E0 x0.length m0) := by rw [ha]; exact (putSel_off rfl).trans rfl
          have e148 : a.tmps[148]? = some (.bool true) := by rw [ha]; exact putSel_on (e := (6, 148, .bool true)) 5 rfl rfl (hon 6 (by kernel_rfl)) rfl
          replace ha := aM ha; replace hI_ := aM hI_; refine value_ (w1 := w') (v := .slice E0 x0.length m0) (wanted_on rfl rfl rfl (e148.trans (by first | rfl | (simp [*]; done)))) rfl ?_ ?_
          ·go_simp
           (try simp only [i64_w])
           try first | rfl | (simp [bne]; done)
          refine hK.out _ _ ⟨(by rw [ha.out]; exact putSel_upk 6 hb_ rfl rfl rfl), hI_.out⟩
         refine steps_cons ?_ ?_
         ·rintro b a w' ⟨ha, hI_⟩ hb_ hon hoff
          refine ⟨_, rfl, fun K hK => ?_⟩; have e149 : a.tmps[149]? = some (.slice E0 x0.length m0) := by rw [ha]; exact putSel_on (e := (7, 149, .slice E0 x0.length m0)) 6 rfl rfl (hon 7 (by kernel_rfl)) rfl
          have e148 : a.tmps[148]? = some (.bool true) := by rw [ha]; exact putSel_on (e := (6, 148, .bool true)) 5 rfl rfl (hon 6 (by kernel_rfl)) rfl
          replace ha := aM ha; replace hI_ := aM hI_; refine value_ (w1 := w') (v := .int .i64 (x0.length : Int)) (wanted_on rfl rfl rfl (e148.trans (by first | rfl | (simp [*]; done)))) rfl ?_ ?_
          ·go_simp
           (try simp only [i64_w])
           try first | rfl | (simp [bne]; done)
          refine hK.out _ _ ⟨(by rw [ha.out]; exact putSel_upk 7 hb_ rfl rfl rfl), hI_.out⟩
         refine steps_cons ?_ ?_
         ·rintro b a w' ⟨ha, hI_⟩ hb_ hon hoff
          refine ⟨_, rfl, fun K hK => ?_⟩; have e13 : a.tmps[13]? = some (.int .i64 sure) := by rw [ha]; exact (putSel_off rfl).trans rfl
          have e148 : a.tmps[148]? = some (.bool true) := by rw [ha]; exact putSel_on (e := (6, 148, .bool true)) 5 rfl rfl (hon 6 (by kernel_rfl)) rfl
          replace ha := aM ha; replace hI_ := aM hI_; refine value_ (w1 := w') (v := .int .i64 sure) (wanted_on rfl rfl rfl (e148.trans (by first | rfl | (simp [*]; done)))) rfl ?_ ?_
          ·go_simp
           (try simp only [i64_w])
           try first | rfl | (simp [bne]; done)
          refine hK.out _ _ ⟨(by rw [ha.out]; exact putSel_upk 8 hb_ rfl rfl rfl), hI_.out⟩
         refine steps_cons ?_ ?_
         ·rintro b a w' ⟨ha, hI_⟩ hb_ hon hoff
          refine ⟨_, rfl, fun K hK => ?_⟩; have e150 : a.tmps[150]? = some (.int .i64 (x0.length : Int)) := by rw [ha]; exact putSel_on (e := (8, 150, .int .i64 (x0.length : Int))) 7 rfl rfl (hon 8 (by kernel_rfl)) rfl
          have e151 : a.tmps[151]? = some (.int .i64 sure) := by rw [ha]; exact putSel_on (e := (9, 151, .int .i64 sure)) 8 rfl rfl (hon 9 (by kernel_rfl)) rfl
          have e148 : a.tmps[148]? = some (.bool true) := by rw [ha]; exact putSel_on (e := (6, 148, .bool true)) 5 rfl rfl (hon 6 (by kernel_rfl)) rfl
          replace ha := aM ha; replace hI_ := aM hI_; refine value_ (w1 := w') (v := .bool (decide ((x0.length : Int) ≥ sure))) (wanted_on rfl rfl rfl (e148.trans (by first | rfl | (simp [*]; done)))) rfl ?_ ?_
          ·go_simp
           (try simp only [i64_w])
           try first | rfl | (simp [bne]; done)
          refine hK.out _ _ ⟨(by rw [ha.out]; exact putSel_upk 9 hb_ rfl rfl rfl), hI_.out⟩
         refine steps_cons ?_ ?_
         ·rintro b a w' ⟨ha, hI_⟩ hb_ hon hoff
          refine ⟨_, rfl, fun K hK => ?_⟩; have e148 : a.tmps[148]? = some (.bool true) := by rw [ha]; exact putSel_on (e := (6, 148, .bool true)) 5 rfl rfl (hon 6 (by kernel_rfl)) rfl
          have e152 : a.tmps[152]? = some (.bool (decide ((x0.length : Int) ≥ sure))) := by rw [ha]; exact putSel_on (e := (10, 152, .bool (decide ((x0.length : Int) ≥ sure)))) 9 rfl rfl (hon 10 (by kernel_rfl)) rfl
          replace ha := aM ha; replace hI_ := aM hI_; refine value_ (w1 := w') (v := .bool (decide ((x0.length : Int) ≥ sure))) (by rfl) rfl ?_ ?_
          ·go_simp
           (try simp only [i64_w])
           try first | rfl | (simp [bne]; done)
          refine hK.out _ _ ⟨(by rw [ha.out]; exact putSel_upk 10 hb_ rfl rfl rfl), hI_.out⟩
         refine steps_cons ?_ ?_
         ·rintro b a w' ⟨ha, hI_⟩ hb_ hon hoff
          refine ⟨_, rfl, fun K hK => ?_⟩; have e153 : a.tmps[153]? = some (.bool (decide ((x0.length : Int) ≥ sure))) := by rw [ha]; exact putSel_on (e := (11, 153, .bool (decide ((x0.length : Int) ≥ sure)))) 10 rfl rfl (hon 11 (by kernel_rfl)) rfl
          replace ha := aM ha; replace hI_ := aM hI_; refine value_ (w1 := w') (v := .bool (decide ((x0.length : Int) ≥ sure))) (by rfl) rfl ?_ ?_
          ·go_simp
           (try simp only [i64_w])
           try first | rfl | (simp [bne]; done)
          refine hK.out _ _ ⟨(by rw [ha.out]; exact putSel_upk 11 hb_ rfl rfl rfl), hI_.out⟩
         refine steps_cons ?_ ?_
         ·rintro b a w' ⟨ha, hI_⟩ hb_ hon hoff
          refine ⟨_, rfl, fun K hK => ?_⟩; have e20 : a.tmps[20]? = some (.slice E0 x0.length m0) := by rw [ha]; exact (putSel_off rfl).trans rfl
          have e154 : a.tmps[154]? = some (.bool (decide ((x0.length : Int) ≥ sure))) := by rw [ha]; exact putSel_on (e := (12, 154, .bool (decide ((x0.length : Int) ≥ sure)))) 11 rfl rfl (hon 12 (by kernel_rfl)) rfl
          replace ha := aM ha; replace hI_ := aM hI_; refine value_ (w1 := w') (v := .slice E0 x0.length m0) (wanted_on rfl rfl rfl (e154.trans (by first | rfl | (simp [*]; done)))) rfl ?_ ?_
          ·go_simp
           (try simp only [i64_w])
           try first | rfl | (simp [bne]; done)
          refine hK.out _ _ ⟨(by rw [ha.out]; exact putSel_upk 12 hb_ rfl rfl rfl), hI_.out⟩
         refine steps_cons ?_ ?_
         ·rintro b a w' ⟨ha, hI_⟩ hb_ hon hoff
          refine ⟨_, rfl, fun K hK => ?_⟩; have e155 : a.tmps[155]? = some (.slice E0 x0.length m0) := by rw [ha]; exact putSel_on (e := (13, 155, .slice E0 x0.length m0)) 12 rfl rfl (hon 13 (by kernel_rfl)) rfl
          have e154 : a.tmps[154]? = some (.bool (decide ((x0.length : Int) ≥ sure))) := by rw [ha]; exact putSel_on (e := (12, 154, .bool (decide ((x0.length : Int) ≥ sure)))) 11 rfl rfl (hon 12 (by kernel_rfl)) rfl
          replace ha := aM ha; replace hI_ := aM hI_; refine value_ (w1 := w') (v := .int .i64 (x0.length : Int)) (wanted_on rfl rfl rfl (e154.trans (by first | rfl | (simp [*]; done)))) rfl ?_ ?_
          ·go_simp
           (try simp only [i64_w])
           try first | rfl | (simp [bne]; done)
          refine hK.out _ _ ⟨(by rw [ha.out]; exact putSel_upk 13 hb_ rfl rfl rfl), hI_.out⟩
         refine steps_cons ?_ ?_
         ·rintro b a w' ⟨ha, hI_⟩ hb_ hon hoff
          refine ⟨_, rfl, fun K hK => ?_⟩; have e12 : a.tmps[12]? = some (.slice Aa all.length ca) := by rw [ha]; exact (putSel_off rfl).trans rfl
          have e154 : a.tmps[154]? = some (.bool (decide ((x0.length : Int) ≥ sure))) := by rw [ha]; exact putSel_on (e := (12, 154, .bool (decide ((x0.length : Int) ≥ sure)))) 11 rfl rfl (hon 12 (by kernel_rfl)) rfl
          replace ha := aM ha; replace hI_ := aM hI_; refine value_ (w1 := w') (v := .slice Aa all.length ca) (wanted_on rfl rfl rfl (e154.trans (by first | rfl | (simp [*]; done)))) rfl ?_ ?_
          ·go_simp
           (try simp only [i64_w])
           try first | rfl | (simp [bne]; done)
          refine hK.out _ _ ⟨(by rw [ha.out]; exact putSel_upk 14 hb_ rfl rfl rfl), hI_.out⟩
         refine steps_cons ?_ ?_
         ·rintro b a w' ⟨ha, hI_⟩ hb_ hon hoff
          refine ⟨_, rfl, fun K hK => ?_⟩; have e157 : a.tmps[157]? = some (.slice Aa all.length ca) := by rw [ha]; exact putSel_on (e := (15, 157, .slice Aa all.length ca)) 14 rfl rfl (hon 15 (by kernel_rfl)) rfl
          have e154 : a.tmps[154]? = some (.bool (decide ((x0.length : Int) ≥ sure))) := by rw [ha]; exact putSel_on (e := (12, 154, .bool (decide ((x0.length : Int) ≥ sure)))) 11 rfl rfl (hon 12 (by kernel_rfl)) rfl
          replace ha := aM ha; replace hI_ := aM hI_; refine value_ (w1 := w') (v := .int .i64 (all.length : Int)) (wanted_on rfl rfl rfl (e154.trans (by first | rfl | (simp [*]; done)))) rfl ?_ ?_
          ·go_simp
           (try simp only [i64_w])
           try first | rfl | (simp [bne]; done)
          refine hK.out _ _ ⟨(by rw [ha.out]; exact putSel_upk 15 hb_ rfl rfl rfl), hI_.out⟩
         refine steps_cons ?_ ?_
         ·rintro b a w' ⟨ha, hI_⟩ hb_ hon hoff
          refine ⟨_, rfl, fun K hK => ?_⟩; have e156 : a.tmps[156]? = some (.int .i64 (x0.length : Int)) := by rw [ha]; exact putSel_on (e := (14, 156, .int .i64 (x0.length : Int))) 13 rfl rfl (hon 14 (by kernel_rfl)) rfl
          have e158 : a.tmps[158]? = some (.int .i64 (all.length : Int)) := by rw [ha]; exact putSel_on (e := (16, 158, .int .i64 (all.length : Int))) 15 rfl rfl (hon 16 (by kernel_rfl)) rfl
          have e154 : a.tmps[154]? = some (.bool (decide ((x0.length : Int) ≥ sure))) := by rw [ha]; exact putSel_on (e := (12, 154, .bool (decide ((x0.length : Int) ≥ sure)))) 11 rfl rfl (hon 12 (by kernel_rfl)) rfl
          replace ha := aM ha; replace hI_ := aM hI_; refine value_ (w1 := w') (v := .bool (decide ((x0.length : Int) ≤ (all.length : Int)))) (wanted_on rfl rfl rfl (e154.trans (by first | rfl | (simp [*]; done)))) rfl ?_ ?_
          ·go_simp
           (try simp only [i64_w])
           try first | rfl | (simp [bne]; done)
          refine hK.out _ _ ⟨(by rw [ha.out]; exact putSel_upk 16 hb_ rfl rfl rfl), hI_.out⟩
         refine steps_cons ?_ ?_
         ·rintro b a w' ⟨ha, hI_⟩ hb_ hon hoff
          refine ⟨_, rfl, fun K hK => ?_⟩; have e154 : a.tmps[154]? = some (.bool (decide ((x0.length : Int) ≥ sure))) := by rw [ha]; exact putSel_on (e := (12, 154, .bool (decide ((x0.length : Int) ≥ sure)))) 11 rfl rfl (hon 12 (by kernel_rfl)) rfl
          have e159 : a.tmps[159]? = some (.bool (decide ((x0.length : Int) ≤ (all.length : Int)))) := by rw [ha]; exact putSel_on (e := (17, 159, .bool (decide ((x0.length : Int) ≤ (all.length : Int))))) 16 rfl rfl (hon 17 (by kernel_rfl)) rfl
          replace ha := aM ha; replace hI_ := aM hI_; refine value_ (w1 := w') (v := .bool (decide ((x0.length : Int) ≤ (all.length : Int)))) (by rfl) rfl ?_ ?_
          ·go_simp
           (try simp only [i64_w])
           try first | rfl | (simp [bne]; done)
          refine hK.out _ _ ⟨(by rw [ha.out]; exact putSel_upk 17 hb_ rfl rfl rfl), hI_.out⟩
         refine steps_cons ?_ ?_
         ·rintro b a w' ⟨ha, hI_⟩ hb_ hon hoff
          refine ⟨_, rfl, fun K hK => ?_⟩; have e160 : a.tmps[160]? = some (.bool (decide ((x0.length : Int) ≤ (all.length : Int)))) := by rw [ha]; exact putSel_on (e := (18, 160, .bool (decide ((x0.length : Int) ≤ (all.length : Int))))) 17 rfl rfl (hon 18 (by kernel_rfl)) rfl
          replace ha := aM ha; replace hI_ := aM hI_; refine value_ (w1 := w') (v := .bool (decide ((x0.length : Int) ≤ (all.length : Int)))) (by rfl) rfl ?_ ?_
          ·go_simp
           (try simp only [i64_w])
           try first | rfl | (simp [bne]; done)
          refine hK.out _ _ ⟨(by rw [ha.out]; exact putSel_upk 18 hb_ rfl rfl rfl), hI_.out⟩
         refine steps_cons ?_ ?_
         ·rintro b a w' ⟨ha, hI_⟩ hb_ hon hoff
          refine ⟨_, rfl, fun K hK => ?_⟩; have e20 : a.tmps[20]? = some (.slice E0 x0.length m0) := by rw [ha]; exact (putSel_off rfl).trans rfl
          have e161 : a.tmps[161]? = some (.bool (decide ((x0.length : Int) ≤ (all.length : Int)))) := by rw [ha]; exact putSel_on (e := (19, 161, .bool (decide ((x0.length : Int) ≤ (all.length : Int))))) 18 rfl rfl (hon 19 (by kernel_rfl)) rfl
          replace ha := aM ha; replace hI_ := aM hI_; refine value_ (w1 := w') (v := .slice E0 x0.length m0) (wanted_on rfl rfl rfl (e161.trans (by first | rfl | (simp [*]; done)))) rfl ?_ ?_
          ·go_simp
           (try simp only [i64_w])
           try first | rfl | (simp [bne]; done)
          refine hK.out _ _ ⟨(by rw [ha.out]; exact putSel_upk 19 hb_ rfl rfl rfl), hI_.out⟩
         refine steps_cons ?_ ?_
         ·rintro b a w' ⟨ha, Q_HO262, Q_HO266, Q_HO_12, Q_BK215, Q_HB⟩ hb_ hon hoff
          refine ⟨_, rfl, fun K hK => ?_⟩; have e162 : a.tmps[162]? = some (.slice E0 x0.length m0) := by rw [ha]; exact putSel_on (e := (20, 162, .slice E0 x0.length m0)) 19 rfl rfl (hon 20 (by kernel_rfl)) rfl
          have e161 : a.tmps[161]? = some (.bool (decide ((x0.length : Int) ≤ (all.length : Int)))) := by rw [ha]; exact putSel_on (e := (19, 161, .bool (decide ((x0.length : Int) ≤ (all.length : Int))))) 18 rfl rfl (hon 19 (by kernel_rfl)) rfl
          replace ha := aM ha; have HO262 := aM Q_HO262; have HO266 := aM Q_HO266; have HO_12 := aM Q_HO_12; have BK215 := aM Q_BK215; have HB := aM Q_HB; refine str_step (src := 22) (dst := 9) (x := .tmp 162) ?hw ?ho ?hx (Kd.C_string (P := Try.prog) (A := E0) (c := m0) Try.underlying22 Try.underlying5 Try.underlying9 (Kd.V_reads' (vG HO262)).2.2) ?_
          case ho => rfl
          case hw => first | rfl | (simp [Region.wanted, yielded, *]; done)
          case hx => first | rfl | (simp only [Act.eval, gD, oG, e162]; done)
          intro w117 hb; have n0_ := rB HO_12 hb
          have n3_ := vB HO262 hb; have n4_ := vB HO266 hb; have n5_ := bB BK215 hb; have n6_ := sB HB hb; clear HO_12; clear HO262; clear HO266; clear BK215; clear HB; have HO_12 := n0_; have HO262 := n3_; have HO266 := n4_; have BK215 := n5_; have HB := n6_; clear n0_ n3_ n4_ n5_ n6_; (try clear hb); refine hK.out _ _ ⟨(by rw [ha.out]; exact putSel_upk 20 hb_ rfl rfl rfl), (vG HO262), (vG HO266), (rG HO_12), (gB BK215), (sG HB)⟩
         refine steps_cons ?_ ?_
         ·rintro b a w' ⟨ha, hI_⟩ hb_ hon hoff
          refine ⟨_, rfl, fun K hK => ?_⟩; have e12 : a.tmps[12]? = some (.slice Aa all.length ca) := by rw [ha]; exact (putSel_off rfl).trans rfl
          have e161 : a.tmps[161]? = some (.bool (decide ((x0.length : Int) ≤ (all.length : Int)))) := by rw [ha]; exact putSel_on (e := (19, 161, .bool (decide ((x0.length : Int) ≤ (all.length : Int))))) 18 rfl rfl (hon 19 (by kernel_rfl)) rfl
          replace ha := aM ha; replace hI_ := aM hI_; refine value_ (w1 := w') (v := .slice Aa all.length ca) (wanted_on rfl rfl rfl (e161.trans (by first | rfl | (simp [*]; done)))) rfl ?_ ?_
          ·go_simp
           (try simp only [i64_w])
           try first | rfl | (simp [bne]; done)
          refine hK.out _ _ ⟨(by rw [ha.out]; exact putSel_upk 21 hb_ rfl rfl rfl), hI_.out⟩
         refine steps_cons ?_ ?_
         ·rintro b a w' ⟨ha, hI_⟩ hb_ hon hoff
          refine ⟨_, rfl, fun K hK => ?_⟩; have e20 : a.tmps[20]? = some (.slice E0 x0.length m0) := by rw [ha]; exact (putSel_off rfl).trans rfl
          have e161 : a.tmps[161]? = some (.bool (decide ((x0.length : Int) ≤ (all.length : Int)))) := by rw [ha]; exact putSel_on (e := (19, 161, .bool (decide ((x0.length : Int) ≤ (all.length : Int))))) 18 rfl rfl (hon 19 (by kernel_rfl)) rfl
          replace ha := aM ha; replace hI_ := aM hI_; refine value_ (w1 := w') (v := .slice E0 x0.length m0) (wanted_on rfl rfl rfl (e161.trans (by first | rfl | (simp [*]; done)))) rfl ?_ ?_
          ·go_simp
           (try simp only [i64_w])
           try first | rfl | (simp [bne]; done)
          refine hK.out _ _ ⟨(by rw [ha.out]; exact putSel_upk 22 hb_ rfl rfl rfl), hI_.out⟩
         refine steps_cons ?_ ?_
         ·rintro b a w' ⟨ha, hI_⟩ hb_ hon hoff
          refine ⟨_, rfl, fun K hK => ?_⟩; have e165 : a.tmps[165]? = some (.slice E0 x0.length m0) := by rw [ha]; exact putSel_on (e := (23, 165, .slice E0 x0.length m0)) 22 rfl rfl (hon 23 (by kernel_rfl)) rfl
          have e161 : a.tmps[161]? = some (.bool (decide ((x0.length : Int) ≤ (all.length : Int)))) := by rw [ha]; exact putSel_on (e := (19, 161, .bool (decide ((x0.length : Int) ≤ (all.length : Int))))) 18 rfl rfl (hon 19 (by kernel_rfl)) rfl
          replace ha := aM ha; replace hI_ := aM hI_; refine value_ (w1 := w') (v := .int .i64 (x0.length : Int)) (wanted_on rfl rfl rfl (e161.trans (by first | rfl | (simp [*]; done)))) rfl ?_ ?_
          ·go_simp
           (try simp only [i64_w])
           try first | rfl | (simp [bne]; done)
          refine hK.out _ _ ⟨(by rw [ha.out]; exact putSel_upk 23 hb_ rfl rfl rfl), hI_.out⟩
         refine steps_cons ?_ ?_
         ·rintro b a w' ⟨ha, hI_⟩ hb_ hon hoff
          refine ⟨_, rfl, fun K hK => ?_⟩; have e164 : a.tmps[164]? = some (.slice Aa all.length ca) := by rw [ha]; exact putSel_on (e := (22, 164, .slice Aa all.length ca)) 21 rfl rfl (hon 22 (by kernel_rfl)) rfl
          have e166 : a.tmps[166]? = some (.int .i64 (x0.length : Int)) := by rw [ha]; exact putSel_on (e := (24, 166, .int .i64 (x0.length : Int))) 23 rfl rfl (hon 24 (by kernel_rfl)) rfl
          have e161 : a.tmps[161]? = some (.bool (decide ((x0.length : Int) ≤ (all.length : Int)))) := by rw [ha]; exact putSel_on (e := (19, 161, .bool (decide ((x0.length : Int) ≤ (all.length : Int))))) 18 rfl rfl (hon 19 (by kernel_rfl)) rfl
          replace ha := aM ha; replace hI_ := aM hI_; refine value_ (w1 := w') (v := .slice Aa y273.length ca) (wanted_on rfl rfl rfl (e161.trans (by first | rfl | (simp [*]; done)))) rfl ?_ ?_
          ·go_simp
           (try simp only [i64_w])
           try first | rfl | (simp [bne]; done)
          refine hK.out _ _ ⟨(by rw [ha.out]; exact putSel_upk 24 hb_ rfl rfl rfl), hI_.out⟩
         refine steps_cons ?_ ?_
         ·rintro b a w' ⟨ha, Q_HO262, Q_HO266, Q_HO_12, Q_BK215, Q_HB⟩ hb_ hon hoff
          refine ⟨_, rfl, fun K hK => ?_⟩; have e167 : a.tmps[167]? = some (.slice Aa y273.length ca) := by rw [ha]; exact putSel_on (e := (25, 167, .slice Aa y273.length ca)) 24 rfl rfl (hon 25 (by kernel_rfl)) rfl
          have e161 : a.tmps[161]? = some (.bool (decide ((x0.length : Int) ≤ (all.length : Int)))) := by rw [ha]; exact putSel_on (e := (19, 161, .bool (decide ((x0.length : Int) ≤ (all.length : Int))))) 18 rfl rfl (hon 19 (by kernel_rfl)) rfl
          replace ha := aM ha; have HO262 := aM Q_HO262; have HO266 := aM Q_HO266; have HO_12 := aM Q_HO_12; have BK215 := aM Q_BK215; have HB := aM Q_HB; refine str_step (src := 22) (dst := 9) (x := .tmp 167) ?hw ?ho ?hx (Kd.C_string (P := Try.prog) (A := Aa) (c := ca) Try.underlying22 Try.underlying5 Try.underlying9 ((show Kd.C (Kd.int .u8) _ Aa y273.length y273 from by rw [Ny273.out]; exact Kd.C_take (m := ((x0.length : Int) : Int).toNat) ((Kd.R_reads' (rG HO_12)).2.2) KL112.out))) ?_
          case ho => rfl
          case hw => first | rfl | (simp [Region.wanted, yielded, *]; done)
          case hx => first | rfl | (simp only [Act.eval, gD, oG, e167]; done)
          intro w117 hb; have n0_ := rB HO_12 hb
          have n3_ := vB HO262 hb; have n4_ := vB HO266 hb; have n5_ := bB BK215 hb; have n6_ := sB HB hb; clear HO_12; clear HO262; clear HO266; clear BK215; clear HB; have HO_12 := n0_; have HO262 := n3_; have HO266 := n4_; have BK215 := n5_; have HB := n6_; clear n0_ n3_ n4_ n5_ n6_; (try clear hb); refine hK.out _ _ ⟨(by rw [ha.out]; exact putSel_upk 25 hb_ rfl rfl rfl), (vG HO262), (vG HO266), (rG HO_12), (gB BK215), (sG HB)⟩
         refine steps_cons ?_ ?_
         ·rintro b a w' ⟨ha, hI_⟩ hb_ hon hoff
          refine ⟨_, rfl, fun K hK => ?_⟩; have e163 : a.tmps[163]? = some (.string (strOfNums x0)) := by rw [ha]; exact putSel_on (e := (21, 163, .string (strOfNums x0))) 20 rfl rfl (hon 21 (by kernel_rfl)) rfl
          have e168 : a.tmps[168]? = some (.string (strOfNums y273)) := by rw [ha]; exact putSel_on (e := (26, 168, .string (strOfNums y273))) 25 rfl rfl (hon 26 (by kernel_rfl)) rfl
          have e161 : a.tmps[161]? = some (.bool (decide ((x0.length : Int) ≤ (all.length : Int)))) := by rw [ha]; exact putSel_on (e := (19, 161, .bool (decide ((x0.length : Int) ≤ (all.length : Int))))) 18 rfl rfl (hon 19 (by kernel_rfl)) rfl
          replace ha := aM ha; replace hI_ := aM hI_; refine value_ (w1 := w') (v := .bool ((strOfNums x0).toList == (strOfNums y273).toList)) (wanted_on rfl rfl rfl (e161.trans (by first | rfl | (simp [*]; done)))) rfl ?_ ?_
          ·go_simp
           (try simp only [i64_w])
           try first | rfl | (simp [bne]; done)
          refine hK.out _ _ ⟨(by rw [ha.out]; exact putSel_upk 26 hb_ rfl rfl rfl), hI_.out⟩
         refine steps_cons ?_ ?_
         ·rintro b a w' ⟨ha, hI_⟩ hb_ hon hoff
          refine ⟨_, rfl, fun K hK => ?_⟩; have e161 : a.tmps[161]? = some (.bool (decide ((x0.length : Int) ≤ (all.length : Int)))) := by rw [ha]; exact putSel_on (e := (19, 161, .bool (decide ((x0.length : Int) ≤ (all.length : Int))))) 18 rfl rfl (hon 19 (by kernel_rfl)) rfl
          have e169 : a.tmps[169]? = some (.bool ((strOfNums x0).toList == (strOfNums y273).toList)) := by rw [ha]; exact putSel_on (e := (27, 169, .bool ((strOfNums x0).toList == (strOfNums y273).toList))) 26 rfl rfl (hon 27 (by kernel_rfl)) rfl
          replace ha := aM ha; replace hI_ := aM hI_; refine value_ (w1 := w') (v := .bool ((strOfNums x0).toList == (strOfNums y273).toList)) (by rfl) rfl ?_ ?_
          ·go_simp
           (try simp only [i64_w])
           try first | rfl | (simp [bne]; done)
          refine hK.out _ _ ⟨(by rw [ha.out]; exact putSel_upk 27 hb_ rfl rfl rfl), hI_.out⟩
         refine steps_cons ?_ ?_
         ·rintro b a w' ⟨ha, hI_⟩ hb_ hon hoff
          refine ⟨_, rfl, fun K hK => ?_⟩; have e170 : a.tmps[170]? = some (.bool ((strOfNums x0).toList == (strOfNums y273).toList)) := by rw [ha]; exact putSel_on (e := (28, 170, .bool ((strOfNums x0).toList == (strOfNums y273).toList))) 27 rfl rfl (hon 28 (by kernel_rfl)) rfl
          replace ha := aM ha; replace hI_ := aM hI_; refine value_ (w1 := w') (v := .bool ((strOfNums x0).toList == (strOfNums y273).toList)) (by rfl) rfl ?_ ?_
          ·go_simp
           (try simp only [i64_w])
           try first | rfl | (simp [bne]; done)
          refine hK.out _ _ ⟨(by rw [ha.out]; exact putSel_upk 28 hb_ rfl rfl rfl), hI_.out⟩
         refine steps_cons ?_ ?_
         ·rintro b a w' ⟨ha, hI_⟩ hb_ hon hoff
          refine ⟨_, rfl, fun K hK => ?_⟩; have e9 : a.tmps[9]? = some (.pointer (some ⟨g, 0, none⟩)) := by rw [ha]; exact (putSel_off rfl).trans rfl
          have e171 : a.tmps[171]? = some (.bool ((strOfNums x0).toList == (strOfNums y273).toList)) := by rw [ha]; exact putSel_on (e := (29, 171, .bool ((strOfNums x0).toList == (strOfNums y273).toList))) 28 rfl rfl (hon 29 (by kernel_rfl)) rfl
          replace ha := aM ha; replace hI_ := aM hI_; refine value_ (w1 := w') (v := .pointer (some ⟨g, 0, none⟩)) (wanted_on rfl rfl rfl (e171.trans (by first | rfl | (simp [*]; done)))) rfl ?_ ?_
          ·go_simp
           (try simp only [i64_w])
           try first | rfl | (simp [bne]; done)
          refine hK.out _ _ ⟨(by rw [ha.out]; exact putSel_upk 29 hb_ rfl rfl rfl), hI_.out⟩
         refine steps_cons ?_ ?_
         ·rintro b a w' ⟨ha, hI_⟩ hb_ hon hoff
          refine ⟨_, rfl, fun K hK => ?_⟩; have e172 : a.tmps[172]? = some (.pointer (some ⟨g, 0, none⟩)) := by rw [ha]; exact putSel_on (e := (30, 172, .pointer (some ⟨g, 0, none⟩))) 29 rfl rfl (hon 30 (by kernel_rfl)) rfl
          have e171 : a.tmps[171]? = some (.bool ((strOfNums x0).toList == (strOfNums y273).toList)) := by rw [ha]; exact putSel_on (e := (29, 171, .bool ((strOfNums x0).toList == (strOfNums y273).toList))) 28 rfl rfl (hon 29 (by kernel_rfl)) rfl
          replace ha := aM ha; replace hI_ := aM hI_; refine value_ (w1 := w') (v := .pointer (some ⟨g, 2, none⟩)) (wanted_on rfl rfl rfl (e171.trans (by first | rfl | (simp [*]; done)))) rfl ?_ ?_
          ·go_simp
           (try simp only [i64_w])
           try first | rfl | (simp [bne]; done)
          refine hK.out _ _ ⟨(by rw [ha.out]; exact putSel_upk 30 hb_ rfl rfl rfl), hI_.out⟩
         refine steps_cons ?_ ?_
         ·rintro b a w' ⟨ha, hI_⟩ hb_ hon hoff
          refine ⟨_, rfl, fun K hK => ?_⟩; have e173 : a.tmps[173]? = some (.pointer (some ⟨g, 2, none⟩)) := by rw [ha]; exact putSel_on (e := (31, 173, .pointer (some ⟨g, 2, none⟩))) 30 rfl rfl (hon 31 (by kernel_rfl)) rfl
          have e171 : a.tmps[171]? = some (.bool ((strOfNums x0).toList == (strOfNums y273).toList)) := by rw [ha]; exact putSel_on (e := (29, 171, .bool ((strOfNums x0).toList == (strOfNums y273).toList))) 28 rfl rfl (hon 29 (by kernel_rfl)) rfl
          replace ha := aM ha; replace hI_ := aM hI_; refine value_ (w1 := w') (v := .pointer (some ⟨g, 2, none⟩)) (wanted_on rfl rfl rfl (e171.trans (by first | rfl | (simp [*]; done)))) rfl ?_ ?_
          ·go_simp
           (try simp only [i64_w])
           try first | rfl | (simp [bne]; done)
          refine hK.out _ _ ⟨(by rw [ha.out]; exact putSel_upk 31 hb_ rfl rfl rfl), hI_.out⟩
         refine steps_cons ?_ ?_
         ·rintro b a w' ⟨ha, Q_HO262, Q_HO266, Q_HO_12, Q_BK215, Q_HB⟩ hb_ hon hoff
          refine ⟨_, rfl, fun K hK => ?_⟩; have e174 : a.tmps[174]? = some (.pointer (some ⟨g, 2, none⟩)) := by rw [ha]; exact putSel_on (e := (32, 174, .pointer (some ⟨g, 2, none⟩))) 31 rfl rfl (hon 32 (by kernel_rfl)) rfl
          have e171 : a.tmps[171]? = some (.bool ((strOfNums x0).toList == (strOfNums y273).toList)) := by rw [ha]; exact putSel_on (e := (29, 171, .bool ((strOfNums x0).toList == (strOfNums y273).toList))) 28 rfl rfl (hon 29 (by kernel_rfl)) rfl
          replace ha := aM ha; have HO262 := aM Q_HO262; have HO266 := aM Q_HO266; have HO_12 := aM Q_HO_12; have BK215 := aM Q_BK215; have HB := aM Q_HB; have hc0_ := cB BK215 0 (.slice E0 x0.length m0) rfl; have hc1_ := cB BK215 1 (.int .i64 t263) rfl; have hc2_ := cB BK215 2 (.slice E2 other.length m2) rfl; have hc3_ := cB BK215 3 (.int .i64 5) rfl; have hc4_ := cB BK215 4 (.int .i64 fuse) rfl; have hc5_ := cB BK215 5 (.int .i64 a3) rfl; have hc6_ := cB BK215 6 (.bool false) rfl; refine value_ (w1 := w') (v := .slice E2 other.length m2) (wanted_on rfl rfl rfl (e171.trans (by first | rfl | (simp [*]; done)))) rfl ?_ ?_
          ·go_simp
           (try simp only [i64_w])
           try first | rfl | (simp [bne]; done)
          refine hK.out _ _ ⟨(by rw [ha.out]; exact putSel_upk 32 hb_ rfl rfl rfl), Q_HO262, Q_HO266, Q_HO_12, Q_BK215, Q_HB⟩
         refine steps_cons ?_ ?_
         ·rintro b a w' ⟨ha, Q_HO262, Q_HO266, Q_HO_12, Q_BK215, Q_HB⟩ hb_ hon hoff
          refine ⟨_, rfl, fun K hK => ?_⟩; have e175 : a.tmps[175]? = some (.slice E2 other.length m2) := by rw [ha]; exact putSel_on (e := (33, 175, .slice E2 other.length m2)) 32 rfl rfl (hon 33 (by kernel_rfl)) rfl
          have e171 : a.tmps[171]? = some (.bool ((strOfNums x0).toList == (strOfNums y273).toList)) := by rw [ha]; exact putSel_on (e := (29, 171, .bool ((strOfNums x0).toList == (strOfNums y273).toList))) 28 rfl rfl (hon 29 (by kernel_rfl)) rfl
          replace ha := aM ha; have HO262 := aM Q_HO262; have HO266 := aM Q_HO266; have HO_12 := aM Q_HO_12; have BK215 := aM Q_BK215; have HB := aM Q_HB; refine str_step (src := 22) (dst := 9) (x := .tmp 175) ?hw ?ho ?hx (Kd.C_string (P := Try.prog) (A := E2) (c := m2) Try.underlying22 Try.underlying5 Try.underlying9 (Kd.V_reads' (vG HO266)).2.2) ?_
          case ho => rfl
          case hw => first | rfl | (simp [Region.wanted, yielded, *]; done)
          case hx => first | rfl | (simp only [Act.eval, gD, oG, e175]; done)
          intro w119 hb; have n0_ := rB HO_12 hb
          have n3_ := vB HO262 hb; have n4_ := vB HO266 hb; have n5_ := bB BK215 hb; have n6_ := sB HB hb; clear HO_12; clear HO262; clear HO266; clear BK215; clear HB; have HO_12 := n0_; have HO262 := n3_; have HO266 := n4_; have BK215 := n5_; have HB := n6_; clear n0_ n3_ n4_ n5_ n6_; (try clear hb); refine hK.out _ _ ⟨(by rw [ha.out]; exact putSel_upk 33 hb_ rfl rfl rfl), (vG HO262), (vG HO266), (rG HO_12), (gB BK215), (sG HB)⟩
         refine steps_cons ?_ ?_
         ·rintro b a w' ⟨ha, hI_⟩ hb_ hon hoff
          refine ⟨_, rfl, fun K hK => ?_⟩; have e176 : a.tmps[176]? = some (.string (strOfNums other)) := by rw [ha]; exact putSel_on (e := (34, 176, .string (strOfNums other))) 33 rfl rfl (hon 34 (by kernel_rfl)) rfl
          have e171 : a.tmps[171]? = some (.bool ((strOfNums x0).toList == (strOfNums y273).toList)) := by rw [ha]; exact putSel_on (e := (29, 171, .bool ((strOfNums x0).toList == (strOfNums y273).toList))) 28 rfl rfl (hon 29 (by kernel_rfl)) rfl
          replace ha := aM ha; replace hI_ := aM hI_; refine value_ (w1 := w') (v := .bool ((strOfNums other).toList == ([111, 116, 104, 101, 114] : List UInt8))) (wanted_on rfl rfl rfl (e171.trans (by first | rfl | (simp [*]; done)))) rfl ?_ ?_
          ·go_simp
           (try simp only [i64_w])
           try first | rfl | (simp [bne]; done)
          refine hK.out _ _ ⟨(by rw [ha.out]; exact putSel_upk 34 hb_ rfl rfl rfl), hI_.out⟩
         refine steps_cons ?_ ?_
         ·rintro b a w' ⟨ha, hI_⟩ hb_ hon hoff
          refine ⟨_, rfl, fun K hK => ?_⟩; have e171 : a.tmps[171]? = some (.bool ((strOfNums x0).toList == (strOfNums y273).toList)) := by rw [ha]; exact putSel_on (e := (29, 171, .bool ((strOfNums x0).toList == (strOfNums y273).toList))) 28 rfl rfl (hon 29 (by kernel_rfl)) rfl
          have e177 : a.tmps[177]? = some (.bool ((strOfNums other).toList == ([111, 116, 104, 101, 114] : List UInt8))) := by rw [ha]; exact putSel_on (e := (35, 177, .bool ((strOfNums other).toList == ([111, 116, 104, 101, 114] : List UInt8)))) 34 rfl rfl (hon 35 (by kernel_rfl)) rfl
          replace ha := aM ha; replace hI_ := aM hI_; refine value_ (w1 := w') (v := .bool ((strOfNums other).toList == ([111, 116, 104, 101, 114] : List UInt8))) (by rfl) rfl ?_ ?_
          ·go_simp
           (try simp only [i64_w])
           try first | rfl | (simp [bne]; done)
          refine hK.out _ _ ⟨(by rw [ha.out]; exact putSel_upk 35 hb_ rfl rfl rfl), hI_.out⟩
         refine steps_cons ?_ ?_
         ·rintro b a w' ⟨ha, hI_⟩ hb_ hon hoff
          refine ⟨_, rfl, fun K hK => ?_⟩; have e178 : a.tmps[178]? = some (.bool ((strOfNums other).toList == ([111, 116, 104, 101, 114] : List UInt8))) := by rw [ha]; exact putSel_on (e := (36, 178, .bool ((strOfNums other).toList == ([111, 116, 104, 101, 114] : List UInt8)))) 35 rfl rfl (hon 36 (by kernel_rfl)) rfl
          replace ha := aM ha; replace hI_ := aM hI_; refine value_ (w1 := w') (v := .bool ((strOfNums other).toList == ([111, 116, 104, 101, 114] : List UInt8))) (by rfl) rfl ?_ ?_
          ·go_simp
           (try simp only [i64_w])
           try first | rfl | (simp [bne]; done)
          refine hK.out _ _ ⟨(by rw [ha.out]; exact putSel_upk 36 hb_ rfl rfl rfl), hI_.out⟩
         refine steps_cons ?_ ?_
         ·rintro b a w' ⟨ha, hI_⟩ hb_ hon hoff
          refine ⟨_, rfl, fun K hK => ?_⟩; have e9 : a.tmps[9]? = some (.pointer (some ⟨g, 0, none⟩)) := by rw [ha]; exact (putSel_off rfl).trans rfl
          have e179 : a.tmps[179]? = some (.bool ((strOfNums other).toList == ([111, 116, 104, 101, 114] : List UInt8))) := by rw [ha]; exact putSel_on (e := (37, 179, .bool ((strOfNums other).toList == ([111, 116, 104, 101, 114] : List UInt8)))) 36 rfl rfl (hon 37 (by kernel_rfl)) rfl
          replace ha := aM ha; replace hI_ := aM hI_; refine value_ (w1 := w') (v := .pointer (some ⟨g, 0, none⟩)) (wanted_on rfl rfl rfl (e179.trans (by first | rfl | (simp [*]; done)))) rfl ?_ ?_
          ·go_simp
           (try simp only [i64_w])
           try first | rfl | (simp [bne]; done)
          refine hK.out _ _ ⟨(by rw [ha.out]; exact putSel_upk 37 hb_ rfl rfl rfl), hI_.out⟩
         refine steps_cons ?_ ?_
         ·rintro b a w' ⟨ha, hI_⟩ hb_ hon hoff
          refine ⟨_, rfl, fun K hK => ?_⟩; have e180 : a.tmps[180]? = some (.pointer (some ⟨g, 0, none⟩)) := by rw [ha]; exact putSel_on (e := (38, 180, .pointer (some ⟨g, 0, none⟩))) 37 rfl rfl (hon 38 (by kernel_rfl)) rfl
          have e179 : a.tmps[179]? = some (.bool ((strOfNums other).toList == ([111, 116, 104, 101, 114] : List UInt8))) := by rw [ha]; exact putSel_on (e := (37, 179, .bool ((strOfNums other).toList == ([111, 116, 104, 101, 114] : List UInt8)))) 36 rfl rfl (hon 37 (by kernel_rfl)) rfl
          replace ha := aM ha; replace hI_ := aM hI_; refine value_ (w1 := w') (v := .pointer (some ⟨g, 0, none⟩)) (wanted_on rfl rfl rfl (e179.trans (by first | rfl | (simp [*]; done)))) rfl ?_ ?_
          ·go_simp
           (try simp only [i64_w])
           try first | rfl | (simp [bne]; done)
          refine hK.out _ _ ⟨(by rw [ha.out]; exact putSel_upk 38 hb_ rfl rfl rfl), hI_.out⟩
         refine steps_cons ?_ ?_
         ·rintro b a w' ⟨ha, hI_⟩ hb_ hon hoff
          refine ⟨_, rfl, fun K hK => ?_⟩; have e181 : a.tmps[181]? = some (.pointer (some ⟨g, 0, none⟩)) := by rw [ha]; exact putSel_on (e := (39, 181, .pointer (some ⟨g, 0, none⟩))) 38 rfl rfl (hon 39 (by kernel_rfl)) rfl
          have e179 : a.tmps[179]? = some (.bool ((strOfNums other).toList == ([111, 116, 104, 101, 114] : List UInt8))) := by rw [ha]; exact putSel_on (e := (37, 179, .bool ((strOfNums other).toList == ([111, 116, 104, 101, 114] : List UInt8)))) 36 rfl rfl (hon 37 (by kernel_rfl)) rfl
          replace ha := aM ha; replace hI_ := aM hI_; refine value_ (w1 := w') (v := .pointer (some ⟨g, 1, none⟩)) (wanted_on rfl rfl rfl (e179.trans (by first | rfl | (simp [*]; done)))) rfl ?_ ?_
          ·go_simp
           (try simp only [i64_w])
           try first | rfl | (simp [bne]; done)
          refine hK.out _ _ ⟨(by rw [ha.out]; exact putSel_upk 39 hb_ rfl rfl rfl), hI_.out⟩
         refine steps_cons ?_ ?_
         ·rintro b a w' ⟨ha, Q_HO262, Q_HO266, Q_HO_12, Q_BK215, Q_HB⟩ hb_ hon hoff
          refine ⟨_, rfl, fun K hK => ?_⟩; have e182 : a.tmps[182]? = some (.pointer (some ⟨g, 1, none⟩)) := by rw [ha]; exact putSel_on (e := (40, 182, .pointer (some ⟨g, 1, none⟩))) 39 rfl rfl (hon 40 (by kernel_rfl)) rfl
          have e179 : a.tmps[179]? = some (.bool ((strOfNums other).toList == ([111, 116, 104, 101, 114] : List UInt8))) := by rw [ha]; exact putSel_on (e := (37, 179, .bool ((strOfNums other).toList == ([111, 116, 104, 101, 114] : List UInt8)))) 36 rfl rfl (hon 37 (by kernel_rfl)) rfl
          replace ha := aM ha; have HO262 := aM Q_HO262; have HO266 := aM Q_HO266; have HO_12 := aM Q_HO_12; have BK215 := aM Q_BK215; have HB := aM Q_HB; have hc0_ := cB BK215 0 (.slice E0 x0.length m0) rfl; have hc1_ := cB BK215 1 (.int .i64 t263) rfl; have hc2_ := cB BK215 2 (.slice E2 other.length m2) rfl; have hc3_ := cB BK215 3 (.int .i64 5) rfl; have hc4_ := cB BK215 4 (.int .i64 fuse) rfl; have hc5_ := cB BK215 5 (.int .i64 a3) rfl; have hc6_ := cB BK215 6 (.bool false) rfl; refine value_ (w1 := w') (v := .int .i64 t263) (wanted_on rfl rfl rfl (e179.trans (by first | rfl | (simp [*]; done)))) rfl ?_ ?_
          ·go_simp
           (try simp only [i64_w])
           try first | rfl | (simp [bne]; done)
          refine hK.out _ _ ⟨(by rw [ha.out]; exact putSel_upk 40 hb_ rfl rfl rfl), Q_HO262, Q_HO266, Q_HO_12, Q_BK215, Q_HB⟩
         refine steps_cons ?_ ?_
         ·rintro b a w' ⟨ha, hI_⟩ hb_ hon hoff
          refine ⟨_, rfl, fun K hK => ?_⟩; have e20 : a.tmps[20]? = some (.slice E0 x0.length m0) := by rw [ha]; exact (putSel_off rfl).trans rfl
          have e179 : a.tmps[179]? = some (.bool ((strOfNums other).toList == ([111, 116, 104, 101, 114] : List UInt8))) := by rw [ha]; exact putSel_on (e := (37, 179, .bool ((strOfNums other).toList == ([111, 116, 104, 101, 114] : List UInt8)))) 36 rfl rfl (hon 37 (by kernel_rfl)) rfl
          replace ha := aM ha; replace hI_ := aM hI_; refine value_ (w1 := w') (v := .slice E0 x0.length m0) (wanted_on rfl rfl rfl (e179.trans (by first | rfl | (simp [*]; done)))) rfl ?_ ?_
          ·go_simp
           (try simp only [i64_w])
           try first | rfl | (simp [bne]; done)
          refine hK.out _ _ ⟨(by rw [ha.out]; exact putSel_upk 41 hb_ rfl rfl rfl), hI_.out⟩
         refine steps_cons ?_ ?_
         ·rintro b a w' ⟨ha, hI_⟩ hb_ hon hoff
          refine ⟨_, rfl, fun K hK => ?_⟩; have e184 : a.tmps[184]? = some (.slice E0 x0.length m0) := by rw [ha]; exact putSel_on (e := (42, 184, .slice E0 x0.length m0)) 41 rfl rfl (hon 42 (by kernel_rfl)) rfl
          have e179 : a.tmps[179]? = some (.bool ((strOfNums other).toList == ([111, 116, 104, 101, 114] : List UInt8))) := by rw [ha]; exact putSel_on (e := (37, 179, .bool ((strOfNums other).toList == ([111, 116, 104, 101, 114] : List UInt8)))) 36 rfl rfl (hon 37 (by kernel_rfl)) rfl
          replace ha := aM ha; replace hI_ := aM hI_; refine value_ (w1 := w') (v := .int .i64 (x0.length : Int)) (wanted_on rfl rfl rfl (e179.trans (by first | rfl | (simp [*]; done)))) rfl ?_ ?_
          ·go_simp
           (try simp only [i64_w])
           try first | rfl | (simp [bne]; done)
          refine hK.out _ _ ⟨(by rw [ha.out]; exact putSel_upk 42 hb_ rfl rfl rfl), hI_.out⟩
         refine steps_cons ?_ ?_
         ·rintro b a w' ⟨ha, hI_⟩ hb_ hon hoff
          refine ⟨_, rfl, fun K hK => ?_⟩; have e183 : a.tmps[183]? = some (.int .i64 t263) := by rw [ha]; exact putSel_on (e := (41, 183, .int .i64 t263)) 40 rfl rfl (hon 41 (by kernel_rfl)) rfl
          have e185 : a.tmps[185]? = some (.int .i64 (x0.length : Int)) := by rw [ha]; exact putSel_on (e := (43, 185, .int .i64 (x0.length : Int))) 42 rfl rfl (hon 43 (by kernel_rfl)) rfl
          have e179 : a.tmps[179]? = some (.bool ((strOfNums other).toList == ([111, 116, 104, 101, 114] : List UInt8))) := by rw [ha]; exact putSel_on (e := (37, 179, .bool ((strOfNums other).toList == ([111, 116, 104, 101, 114] : List UInt8)))) 36 rfl rfl (hon 37 (by kernel_rfl)) rfl
          replace ha := aM ha; replace hI_ := aM hI_; refine value_ (w1 := w') (v := .bool (t263 == (x0.length : Int))) (wanted_on rfl rfl rfl (e179.trans (by first | rfl | (simp [*]; done)))) rfl ?_ ?_
          ·go_simp
           (try simp only [i64_w])
           try first | rfl | (simp [bne]; done)
          refine hK.out _ _ ⟨(by rw [ha.out]; exact putSel_upk 43 hb_ rfl rfl rfl), hI_.out⟩
         refine steps_cons ?_ ?_
         ·rintro b a w' ⟨ha, hI_⟩ hb_ hon hoff
          refine ⟨_, rfl, fun K hK => ?_⟩; have e179 : a.tmps[179]? = some (.bool ((strOfNums other).toList == ([111, 116, 104, 101, 114] : List UInt8))) := by rw [ha]; exact putSel_on (e := (37, 179, .bool ((strOfNums other).toList == ([111, 116, 104, 101, 114] : List UInt8)))) 36 rfl rfl (hon 37 (by kernel_rfl)) rfl
          have e186 : a.tmps[186]? = some (.bool (t263 == (x0.length : Int))) := by rw [ha]; exact putSel_on (e := (44, 186, .bool (t263 == (x0.length : Int)))) 43 rfl rfl (hon 44 (by kernel_rfl)) rfl
          replace ha := aM ha; replace hI_ := aM hI_; refine value_ (w1 := w') (v := .bool (t263 == (x0.length : Int))) (by rfl) rfl ?_ ?_
          ·go_simp
           (try simp only [i64_w])
           try first | rfl | (simp [bne]; done)
          refine hK.out _ _ ⟨(by rw [ha.out]; exact putSel_upk 44 hb_ rfl rfl rfl), hI_.out⟩
         refine steps_cons ?_ ?_
         ·rintro b a w' ⟨ha, hI_⟩ hb_ hon hoff
          refine ⟨_, rfl, fun K hK => ?_⟩; have e187 : a.tmps[187]? = some (.bool (t263 == (x0.length : Int))) := by rw [ha]; exact putSel_on (e := (45, 187, .bool (t263 == (x0.length : Int)))) 44 rfl rfl (hon 45 (by kernel_rfl)) rfl
          replace ha := aM ha; replace hI_ := aM hI_; refine value_ (w1 := w') (v := .bool (t263 == (x0.length : Int))) (by rfl) rfl ?_ ?_
          ·go_simp
           (try simp only [i64_w])
           try first | rfl | (simp [bne]; done)
          refine hK.out _ _ ⟨(by rw [ha.out]; exact putSel_upk 45 hb_ rfl rfl rfl), hI_.out⟩
         exact steps_nil
        rintro b a w121 hall ⟨ha, Q_HO262, Q_HO266, Q_HO_12, Q_BK215, Q_HB⟩
        clear BK215 HB HO262 HO266 HO_12; have hb1_ := hall 1 (by kernel_rfl); have hb2_ := hall 2 (by kernel_rfl); have hb3_ := hall 3 (by kernel_rfl); have hb4_ := hall 4 (by kernel_rfl); have hb5_ := hall 5 (by kernel_rfl); have hb6_ := hall 6 (by kernel_rfl); have hb7_ := hall 7 (by kernel_rfl); have hb8_ := hall 8 (by kernel_rfl); have hb9_ := hall 9 (by kernel_rfl); have hb10_ := hall 10 (by kernel_rfl); have hb11_ := hall 11 (by kernel_rfl); have hb12_ := hall 12 (by kernel_rfl); have hb13_ := hall 13 (by kernel_rfl); have hb14_ := hall 14 (by kernel_rfl); have hb15_ := hall 15 (by kernel_rfl); have hb16_ := hall 16 (by kernel_rfl); have hb17_ := hall 17 (by kernel_rfl); have hb18_ := hall 18 (by kernel_rfl); have hb19_ := hall 19 (by kernel_rfl); have hb20_ := hall 20 (by kernel_rfl); have hb21_ := hall 21 (by kernel_rfl); have hb22_ := hall 22 (by kernel_rfl); have hb23_ := hall 23 (by kernel_rfl); have hb24_ := hall 24 (by kernel_rfl); have hb25_ := hall 25 (by kernel_rfl); have hb26_ := hall 26 (by kernel_rfl); have hb27_ := hall 27 (by kernel_rfl); have hb28_ := hall 28 (by kernel_rfl); have hb29_ := hall 29 (by kernel_rfl); have hb30_ := hall 30 (by kernel_rfl); have hb31_ := hall 31 (by kernel_rfl); have hb32_ := hall 32 (by kernel_rfl); have hb33_ := hall 33 (by kernel_rfl); have hb34_ := hall 34 (by kernel_rfl); have hb35_ := hall 35 (by kernel_rfl); have hb36_ := hall 36 (by kernel_rfl); have hb37_ := hall 37 (by kernel_rfl); have hb38_ := hall 38 (by kernel_rfl); have hb39_ := hall 39 (by kernel_rfl); have hb40_ := hall 40 (by kernel_rfl); have hb41_ := hall 41 (by kernel_rfl); have hb42_ := hall 42 (by kernel_rfl); have hb43_ := hall 43 (by kernel_rfl); have hb44_ := hall 44 (by kernel_rfl); have hb45_ := hall 45 (by kernel_rfl); have hb46_ := hall 46 (by kernel_rfl); subst ha; simp only [putSel, hb1_, hb2_, hb3_, hb4_, hb5_, hb6_, hb7_, hb8_, hb9_, hb10_, hb11_, hb12_, hb13_, hb14_, hb15_, hb16_, hb17_, hb18_, hb19_, hb20_, hb21_, hb22_, hb23_, hb24_, hb25_, hb26_, hb27_, hb28_, hb29_, hb30_, hb31_, hb32_, hb33_, hb34_, hb35_, hb36_, hb37_, hb38_, hb39_, hb40_, hb41_, hb42_, hb43_, hb44_, hb45_, hb46_, if_true, Act.put, sA, s0, sS]; (try simp only [c103b0, c103b1, c104b0, c104b1])
        have HO262 := aM Q_HO262; clear Q_HO262; have HO266 := aM Q_HO266; clear Q_HO266; have HO_12 := aM Q_HO_12; clear Q_HO_12; have BK215 := aM Q_BK215; clear Q_BK215; have HB := aM Q_HB; clear Q_HB; clear hall hb1_ hb2_ hb3_ hb4_ hb5_ hb6_ hb7_ hb8_ hb9_ hb10_ hb11_ hb12_ hb13_ hb14_ hb15_ hb16_ hb17_ hb18_ hb19_ hb20_ hb21_ hb22_ hb23_ hb24_ hb25_ hb26_ hb27_ hb28_ hb29_ hb30_ hb31_ hb32_ hb33_ hb34_ hb35_ hb36_ hb37_ hb38_ hb39_ hb40_ hb41_ hb42_ hb43_ hb44_ hb45_ hb46_; try go_wp2
        go_ret
        exact ⟨(by rw [HS63.out] : Ending.returned (Value.bool (t263 == (x0.length : Int))) = .returned (.bool true)), by repeat (first | (with_reducible first | exact HB.out | apply bA | apply bN | apply bD) | exact HB.out)⟩
/-- What the first writes answer. -/
def wristbandlaw17_DiskKeeps.Pure : Prop := disk_New.f = some ([], 0, [], 0, -1, 0, false) ∧ disk_Write.f [] 0 [] 0 (-1) 0 false 1 other = some ([], 0, other, 0, -1, 0, false, 0) ∧ disk_Sync.f [] 0 other 0 (-1) 0 false 1 = some ([], 0, other, 5, -1, 0, false, 0)
theorem wristbandlaw17_DiskKeeps.open0 {H : Type} {enc : TypeId × Value → H} {W : World} {base : Nat} {sp : Nat → Bool} {held : Bool} {a : Option Addr} {len cap : Nat} {x : DataW H} {p : List MemPlace} (hT : DataW.Trod enc Try.prog W base sp held 68 (.slice a len cap) x p) : ∃ zs : List (List Int), zs.length = len ∧ len ≤ cap ∧ Kd.C (Kd.slice 5 (Kd.int .u8)) W a len zs ∧ (zs.length ≤ maxLen ∧ ∀ x_ ∈ zs, (fun xs_ : List Int => xs_.length ≤ maxLen ∧ ∀ x_ ∈ xs_, (fun n_ : Int => (Lit.int .u8 n_).wf = true) x_) x_) := opens_row (opens_slice Try.underlying68 (opens_slice Try.underlying22 (opens_int Try.underlying5) (by kernel_rfl)) (by kernel_rfl)) hT
theorem wristbandlaw17_DiskKeeps.open1 {H : Type} {enc : TypeId × Value → H} {W : World} {base : Nat} {sp : Nat → Bool} {held : Bool} {a : Option Addr} {len cap : Nat} {x : DataW H} {p : List MemPlace} (hT : DataW.Trod enc Try.prog W base sp held 79 (.slice a len cap) x p) : ∃ zs : List Bool, zs.length = len ∧ len ≤ cap ∧ Kd.C Kd.bool W a len zs ∧ (zs.length ≤ maxLen ∧ ∀ x_ ∈ zs, (fun _ : Bool => True) x_) := opens_row (opens_slice Try.underlying79 (opens_bool Try.underlying4) (by kernel_rfl)) hT
theorem wristbandlaw17_DiskKeeps.walk (P : wristbandlaw17_DiskKeeps.Pure) (a0 : Option Addr) (len0 cap0 : Nat) (z0 : List (List Int)) (a1 : Option Addr) (len1 cap1 : Nat) (z1 : List Bool) (a2 : Int) (a3 : Int) (w : World) (w0 : z0.length = len0 ∧ len0 ≤ cap0 ∧ Kd.C (Kd.slice 5 (Kd.int .u8)) w a0 len0 z0 ∧ (z0.length ≤ maxLen ∧ ∀ x_ ∈ z0, (fun xs_ : List Int => xs_.length ≤ maxLen ∧ ∀ x_ ∈ xs_, (fun n_ : Int => (Lit.int .u8 n_).wf = true) x_) x_)) (w1 : z1.length = len1 ∧ len1 ≤ cap1 ∧ Kd.C Kd.bool w a1 len1 z1 ∧ (z1.length ≤ maxLen ∧ ∀ x_ ∈ z1, (fun _ : Bool => True) x_)) (w2 : (Lit.int .u8 a2).wf = true) (w3 : (Lit.int .u8 a3).wf = true) :
   Calls Try.prog 12 #[.slice a0 len0 cap0, .slice a1 len1 cap1, .int .u8 a2, .int .u8 a3] w fun e w' => e = .returned (.bool true) ∧ Below w.heap.size w w' := by
  obtain ⟨rfl, hc0, hr0, hm0, hw0⟩ := w0
  obtain ⟨rfl, hc1, hr1, hm1, hw1⟩ := w1
  have h2 := bounds_u8 w2
  have h3 := bounds_u8 w3
  rcases Nat.lt_or_ge 30 z0.length with h | h
  · exact kp.many a0 cap0 z0 a1 cap1 z1 a2 a3 w h
  rcases Nat.lt_or_ge z1.length z0.length with h1 | h1
  · exact kp.few a0 cap0 z0 a1 cap1 z1 a2 a3 w h h1
  exact kp.main a0 cap0 z0 a1 cap1 z1 a2 a3 w h2.1 h2.2 h3.1 h3.2 hr0 hc0 hr1 hc1 h h1 [] rfl P.1 P.2.1 P.2.2

end Go.Proofs.Ytnpkhkhlofkbhaa.PDiskKeeps
