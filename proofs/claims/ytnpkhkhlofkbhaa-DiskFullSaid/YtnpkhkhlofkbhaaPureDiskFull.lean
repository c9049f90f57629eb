/- DiskFull: for every input the law answers true: an area takes as many bytes as it may have and not one more, and a step that is refused so burns no fuse. No condition. -/
import Derived.Test.YtnpkhkhlofkbhaaPDiskFullx3
import Derived.OpenShut
set_option linter.unusedVariables false
set_option linter.unusedSimpArgs false
namespace Go.Proofs.Ytnpkhkhlofkbhaa.Pure
open Go.RowKit Go.Proofs.Ytnpkhkhlofkbhaa.PDiskFull Go.Proofs.YtnpkhkhlofkbhaaW.PrintWords Go.Proofs.YtnpkhkhlofkbhaaW.PrintLast Go.Proofs.YtnpkhkhlofkbhaaW.PrintMore

theorem wrap64_id {n : Int} (h0 : -9223372036854775808 ≤ n) (h1 : n ≤ 9223372036854775807) : wrap64 n = n := by unfold wrap64; omega
theorem ex_succ {k n : Nat} (h : n < k) : ∃ m, k = m + 1 := ⟨k - 1, by omega⟩
/-! the disk's functions -/
def OkA (l : List Int) (s : Int) : Prop := 0 ≤ s ∧ s ≤ (l.length : Int) ∧ l.length ≤ 1048576
theorem okA_iff (l : List Int) (s : Int) : dk.ok l.length s = true ↔ OkA l s := by
  unfold dk.ok OkA
  simp only [Bool.and_eq_true, decide_eq_true_eq]
theorem right_iff (l0 : List Int) (s0 : Int) (l1 : List Int) (s1 fuse keep : Int) : dk.right l0.length s0 l1.length s1 fuse keep = true ↔ (OkA l0 s0 ∧ OkA l1 s1 ∧ -1 ≤ fuse ∧ 0 ≤ keep) := by
  unfold dk.right
  simp only [Bool.and_eq_true, decide_eq_true_eq, okA_iff]
/-- How much of an area stays. -/
def cn (n : Nat) (s keep : Int) : Nat := min (s.toNat + keep.toNat) n
theorem cn_le (n : Nat) (s keep : Int) : cn n s keep ≤ n := by unfold cn; omega
theorem le_cn (n : Nat) (s keep : Int) (h : s ≤ (n : Int)) : s ≤ (cn n s keep : Int) := by unfold cn; omega
theorem dl_n (l : List Int) (s keep : Int) (h : OkA l s) (hk : 0 ≤ keep) : dl.n l.length s keep = (cn l.length s keep : Int) := by
  unfold OkA at h
  unfold dl.n cn
  rw [wrap64_id (n := (l.length : Int) - s) (by omega) (by omega), show mn keep ((l.length : Int) - s) = min keep ((l.length : Int) - s) by unfold mn; split <;> omega, wrap64_id (by omega) (by omega)]
  omega
theorem clone8 (l : List Int) (h : l.length < 140737488355328) : slices_Clone_byte_byte.f l = some l := by
  unfold slices_Clone_byte_byte.f; rw [if_pos h]
theorem concat8 (a b : List Int) (h : a.length + b.length < 140737488355328) : slices_Concat_byte_byte.f [a, b] = some (a ++ b) := by
  unfold slices_Concat_byte_byte.f
  have e : [a, b].flatten = a ++ b := by simp
  rw [e, if_pos ⟨by simp, by rw [List.length_append]; exact h⟩]
theorem lost_f (l0 : List Int) (s0 : Int) (l1 : List Int) (s1 fuse keep : Int) (dn : Bool) (a : Int) (h0 : OkA l0 s0) (h1 : OkA l1 s1) (ha : 0 ≤ a) :
    disk_lost.f l0 s0 l1 s1 fuse keep dn a = some (l0.take (cn l0.length s0 a), (cn l0.length s0 a : Int), l1.take (cn l1.length s1 a), (cn l1.length s1 a : Int), -1, keep, true) := by
  unfold disk_lost.f
  rw [dl_n l0 s0 a h0 ha, dl_n l1 s1 a h1 ha]
  have c0 := cn_le l0.length s0 a
  have c1 := cn_le l1.length s1 a
  unfold OkA at h0 h1
  rw [if_pos ⟨by omega, by omega, by omega, by omega⟩, Int.toNat_natCast, Int.toNat_natCast, clone8 _ (by rw [List.length_take]; omega)]
  simp only [Option.bind_some]
  rw [clone8 _ (by rw [List.length_take]; omega)]
  rfl
theorem wr_n (keep : Int) (nb : Nat) (h : 0 ≤ keep) : wr.n keep nb = min keep.toNat nb := by
  unfold wr.n
  repeat' split
  all_goals omega
/-- The fuse behind a step that is done. -/
def burnt (fuse : Int) : Int := if 0 < fuse then fuse - 1 else fuse
theorem burnt_w (fuse : Int) (h : -1 ≤ fuse) (h' : fuse ≤ 9223372036854775807) : (if 0 < fuse then wrap64 (fuse - 1) else fuse) = burnt fuse := by
  unfold burnt
  split
  · rw [wrap64_id (by omega) (by omega)]
  · rfl
theorem full_w (n m : Nat) (h : n ≤ 1048576) : decide (wrap64 (1048576 - (n : Int)) < (m : Int)) = decide (1048576 < n + m) := by
  rw [wrap64_id (by omega) (by omega), decide_eq_decide]; omega
theorem sp_full (l0 : List Int) (s0 : Int) (l1 : List Int) (s1 fuse keep : Int) (torn all : Option (List Int × Int × List Int × Int)) : sp.f true true false l0 s0 l1 s1 fuse keep torn all = some (l0, s0, l1, s1, fuse, keep, false, 12) := rfl
theorem sp_torn (l0 : List Int) (s0 : Int) (l1 : List Int) (s1 fuse keep : Int) (torn all : Option (List Int × Int × List Int × Int)) (h : fuse = 0) : sp.f true false false l0 s0 l1 s1 fuse keep torn all = torn.bind fun q => (disk_lost.f q.1 q.2.1 q.2.2.1 q.2.2.2 0 keep false keep).bind fun r => some (r.1, r.2.1, r.2.2.1, r.2.2.2.1, r.2.2.2.2.1, r.2.2.2.2.2.1, r.2.2.2.2.2.2, 14) := by
  unfold sp.f; rw [if_pos rfl, if_neg (by decide), if_neg (by decide), if_pos h]
theorem sp_all (l0 : List Int) (s0 : Int) (l1 : List Int) (s1 fuse keep : Int) (torn all : Option (List Int × Int × List Int × Int)) (h : ¬ fuse = 0) (hf : -1 ≤ fuse) (hf' : fuse ≤ 9223372036854775807) : sp.f true false false l0 s0 l1 s1 fuse keep torn all = all.bind fun q => some (q.1, q.2.1, q.2.2.1, q.2.2.2, burnt fuse, keep, false, 0) := by
  unfold sp.f; rw [if_pos rfl, if_neg (by decide), if_neg (by decide), if_neg h, burnt_w fuse hf hf']
theorem write0 (l0 : List Int) (s0 : Int) (l1 : List Int) (s1 fuse keep : Int) (b : List Int) (h0 : OkA l0 s0) (h1 : OkA l1 s1) (hf : -1 ≤ fuse) (hf' : fuse ≤ 9223372036854775807) (hk : 0 ≤ keep) (hb : l0.length + b.length ≤ 1048576) :
    disk_Write.f l0 s0 l1 s1 fuse keep false 0 b = if fuse = 0 then
      some ((l0 ++ b.take (min keep.toNat b.length)).take (cn (l0.length + min keep.toNat b.length) s0 keep), (cn (l0.length + min keep.toNat b.length) s0 keep : Int), l1.take (cn l1.length s1 keep), (cn l1.length s1 keep : Int), -1, keep, true, 14)
    else some (l0 ++ b, s0, l1, s1, burnt fuse, keep, false, 0) := by
  unfold disk_Write.f
  have e : (l0 ++ b.take (min keep.toNat b.length)).length = l0.length + min keep.toNat b.length := by rw [List.length_append, List.length_take]; omega
  have o : OkA (l0 ++ b.take (min keep.toNat b.length)) s0 := by unfold OkA at h0 ⊢; rw [e]; omega
  rw [(right_iff l0 s0 l1 s1 fuse keep).2 ⟨h0, h1, hf, hk⟩, if_pos (show (0 : Int) ≤ 0 ∧ (0 : Int) < 2 by omega), if_pos rfl, full_w _ _ h0.2.2, decide_eq_false (show ¬ 1048576 < l0.length + b.length by omega), wr_n _ _ hk]
  rw [show (true && (decide ((0 : Int) ≤ 0) && decide ((0 : Int) < 2))) = true by decide]
  by_cases e0 : fuse = 0
  · rw [if_pos e0, sp_torn _ _ _ _ _ _ _ _ e0, concat8 _ _ (by rw [List.length_take]; omega)]
    simp only [Option.bind_some, if_true]
    rw [lost_f _ _ _ _ _ _ _ _ o h1 hk, e]
    rfl
  · rw [if_neg e0, sp_all _ _ _ _ _ _ _ _ e0 hf hf', concat8 _ _ (by omega)]
    rfl
theorem sync0 (l0 : List Int) (s0 : Int) (l1 : List Int) (s1 fuse keep : Int) (h0 : OkA l0 s0) (h1 : OkA l1 s1) (hf : -1 ≤ fuse) (hf' : fuse ≤ 9223372036854775807) (hk : 0 ≤ keep) :
    disk_Sync.f l0 s0 l1 s1 fuse keep false 0 = if fuse = 0 then
      some (l0.take (cn l0.length s0 keep), (cn l0.length s0 keep : Int), l1.take (cn l1.length s1 keep), (cn l1.length s1 keep : Int), -1, keep, true, 14)
    else some (l0, (l0.length : Int), l1, s1, burnt fuse, keep, false, 0) := by
  unfold disk_Sync.f
  rw [(right_iff l0 s0 l1 s1 fuse keep).2 ⟨h0, h1, hf, hk⟩, show (true && (decide ((0 : Int) ≤ 0) && decide ((0 : Int) < 2))) = true by decide]
  by_cases e0 : fuse = 0
  · rw [if_pos e0, sp_torn _ _ _ _ _ _ _ _ e0]
    simp only [Option.bind_some]
    rw [lost_f _ _ _ _ _ _ _ _ h0 h1 hk]
    rfl
  · rw [if_neg e0, sp_all _ _ _ _ _ _ _ _ e0 hf hf']
    rfl
theorem rise_f (l0 : List Int) (s0 : Int) (l1 : List Int) (s1 fuse keep : Int) (h0 : OkA l0 s0) (h1 : OkA l1 s1) (hf : -1 ≤ fuse) (hk : 0 ≤ keep) :
    disk_Rise.f l0 s0 l1 s1 fuse keep true = some (l0, s0, l1, s1, fuse, keep, false, 0) := by
  unfold disk_Rise.f disk_Right.f
  rw [(right_iff l0 s0 l1 s1 fuse keep).2 ⟨h0, h1, hf, hk⟩]
  rfl
theorem right_f (l0 : List Int) (s0 : Int) (l1 : List Int) (s1 fuse keep : Int) (dn : Bool) (h0 : OkA l0 s0) (h1 : OkA l1 s1) (hf : -1 ≤ fuse) (hk : 0 ≤ keep) :
    disk_Right.f l0 s0 l1 s1 fuse keep dn = some true := by
  unfold disk_Right.f
  rw [(right_iff l0 s0 l1 s1 fuse keep).2 ⟨h0, h1, hf, hk⟩]
theorem writeFull (l0 : List Int) (s0 : Int) (l1 : List Int) (s1 fuse keep : Int) (b : List Int) (h0 : OkA l0 s0) (h1 : OkA l1 s1) (hf : -1 ≤ fuse) (hk : 0 ≤ keep) (hb : 1048576 < l0.length + b.length) :
    disk_Write.f l0 s0 l1 s1 fuse keep false 0 b = some (l0, s0, l1, s1, fuse, keep, false, 12) := by
  unfold disk_Write.f
  rw [(right_iff l0 s0 l1 s1 fuse keep).2 ⟨h0, h1, hf, hk⟩, if_pos (show (0 : Int) ≤ 0 ∧ (0 : Int) < 2 by omega), if_pos rfl, full_w _ _ h0.2.2, decide_eq_true (show 1048576 < l0.length + b.length by omega), show (true && (decide ((0 : Int) ≤ 0) && decide ((0 : Int) < 2))) = true by decide]
  exact sp_full _ _ _ _ _ _ _ _
theorem DiskFull : wristbandlaw17_DiskFull.Pure := by
  intro a0 a1 w0 w1
  have h0 : 0 ≤ a0 ∧ a0 ≤ 65535 := bounds_u16 w0
  have h1 : 0 ≤ a1 ∧ a1 ≤ 255 := bounds_u8 w1
  clear w0 w1
  obtain ⟨m, rfl⟩ : ∃ m : Nat, a0 = (m : Int) := ⟨a0.toNat, by omega⟩
  have e1 : (1048576 - (m : Int)).toNat = 1048576 - m := by omega
  have e2 : ((m : Int) + 1).toNat = m + 1 := by omega
  rw [e1, e2, Int.toNat_natCast]
  have o0 : OkA (List.replicate (1048576 - m) 0) 0 := by unfold OkA; rw [List.length_replicate]; omega
  have o1 : OkA [] 0 := by unfold OkA; simp
  have hw := write0 _ _ _ _ a1 0 (List.replicate m 0) o0 o1 (by omega) (by omega) (by omega) (by simp only [List.length_replicate]; omega)
  have hf := writeFull _ _ _ _ a1 0 (List.replicate (m + 1) 0) o0 o1 (by omega) (by omega) (by simp only [List.length_replicate]; omega)
  by_cases e0 : a1 = 0
  · rw [if_pos e0] at hw
    exact ⟨[], _, _, _, _, _, _, _, _, rfl, hf, hw, .inl ⟨e0, rfl, rfl⟩⟩
  · rw [if_neg e0] at hw
    exact ⟨[], _, _, _, _, _, _, _, _, rfl, hf, hw, .inr ⟨e0, by simp only [List.length_append, List.length_replicate]; omega, by unfold burnt; rw [if_pos (by omega)], rfl⟩⟩

end Go.Proofs.Ytnpkhkhlofkbhaa.Pure
