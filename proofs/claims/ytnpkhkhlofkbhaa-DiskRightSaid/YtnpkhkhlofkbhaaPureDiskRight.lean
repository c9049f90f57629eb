/- DiskRight (layer 17): for every input the law returns true: program and reference answer the same. -/
import Derived.Test.YtnpkhkhlofkbhaaPDiskRightx7
import Derived.OpenShut
set_option linter.unusedVariables false
set_option linter.unusedSimpArgs false
namespace Go.Proofs.Ytnpkhkhlofkbhaa.Pure
open Go.RowKit Go.Proofs.Ytnpkhkhlofkbhaa.PDiskRight Go.Proofs.YtnpkhkhlofkbhaaW.PrintWords Go.Proofs.YtnpkhkhlofkbhaaW.PrintLast Go.Proofs.YtnpkhkhlofkbhaaW.PrintMore

theorem wrap64_id {n : Int} (h0 : -9223372036854775808 ≤ n) (h1 : n ≤ 9223372036854775807) : wrap64 n = n := by unfold wrap64; omega
theorem ex_succ {k n : Nat} (h : n < k) : ∃ m, k = m + 1 := ⟨k - 1, by omega⟩
/-! the disk's functions -/
def OkA (l : List Int) (s : Int) : Prop := 0 ≤ s ∧ s ≤ (l.length : Int) ∧ l.length ≤ 1048576
theorem okA_iff (l : List Int) (s : Int) : dk.ok l.length s = true ↔ OkA l s := by
  unfold dk.ok OkA
  simp only [Bool.and_eq_true, decide_eq_true_eq]
theorem right_iff (l0 : List Int) (s0 : Int) (l1 : List Int) (s1 fuse keep : Int) : dk.right l0.length s0 l1.length s1 fuse keep = true ↔ (OkA l0 s0 ∧ OkA l1 s1 ∧ -1 ≤ fuse ∧ 0 ≤ keep) := by
  unfold dk.right
  simp only [Bool.and_eq_true, decide_eq_true_eq, okA_iff]
/-- How much of an area stays. -/
def cn (n : Nat) (s keep : Int) : Nat := min (s.toNat + keep.toNat) n
theorem cn_le (n : Nat) (s keep : Int) : cn n s keep ≤ n := by unfold cn; omega
theorem le_cn (n : Nat) (s keep : Int) (h : s ≤ (n : Int)) : s ≤ (cn n s keep : Int) := by unfold cn; omega
theorem dl_n (l : List Int) (s keep : Int) (h : OkA l s) (hk : 0 ≤ keep) : dl.n l.length s keep = (cn l.length s keep : Int) := by
  unfold OkA at h
  unfold dl.n cn
  rw [wrap64_id (n := (l.length : Int) - s) (by omega) (by omega), show mn keep ((l.length : Int) - s) = min keep ((l.length : Int) - s) by unfold mn; split <;> omega, wrap64_id (by omega) (by omega)]
  omega
theorem clone8 (l : List Int) (h : l.length < 140737488355328) : slices_Clone_byte_byte.f l = some l := by
  unfold slices_Clone_byte_byte.f; rw [if_pos h]
theorem concat8 (a b : List Int) (h : a.length + b.length < 140737488355328) : slices_Concat_byte_byte.f [a, b] = some (a ++ b) := by
  unfold slices_Concat_byte_byte.f
  have e : [a, b].flatten = a ++ b := by simp
  rw [e, if_pos ⟨by simp, by rw [List.length_append]; exact h⟩]
theorem lost_f (l0 : List Int) (s0 : Int) (l1 : List Int) (s1 fuse keep : Int) (dn : Bool) (a : Int) (h0 : OkA l0 s0) (h1 : OkA l1 s1) (ha : 0 ≤ a) :
    disk_lost.f l0 s0 l1 s1 fuse keep dn a = some (l0.take (cn l0.length s0 a), (cn l0.length s0 a : Int), l1.take (cn l1.length s1 a), (cn l1.length s1 a : Int), -1, keep, true) := by
  unfold disk_lost.f
  rw [dl_n l0 s0 a h0 ha, dl_n l1 s1 a h1 ha]
  have c0 := cn_le l0.length s0 a
  have c1 := cn_le l1.length s1 a
  unfold OkA at h0 h1
  rw [if_pos ⟨by omega, by omega, by omega, by omega⟩, Int.toNat_natCast, Int.toNat_natCast, clone8 _ (by rw [List.length_take]; omega)]
  simp only [Option.bind_some]
  rw [clone8 _ (by rw [List.length_take]; omega)]
  rfl
theorem wr_n (keep : Int) (nb : Nat) (h : 0 ≤ keep) : wr.n keep nb = min keep.toNat nb := by
  unfold wr.n
  repeat' split
  all_goals omega
/-- The fuse behind a step that is done. -/
def burnt (fuse : Int) : Int := if 0 < fuse then fuse - 1 else fuse
theorem burnt_w (fuse : Int) (h : -1 ≤ fuse) (h' : fuse ≤ 9223372036854775807) : (if 0 < fuse then wrap64 (fuse - 1) else fuse) = burnt fuse := by
  unfold burnt
  split
  · rw [wrap64_id (by omega) (by omega)]
  · rfl
theorem full_w (n m : Nat) (h : n ≤ 1048576) : decide (wrap64 (1048576 - (n : Int)) < (m : Int)) = decide (1048576 < n + m) := by
  rw [wrap64_id (by omega) (by omega), decide_eq_decide]; omega
theorem sp_full (l0 : List Int) (s0 : Int) (l1 : List Int) (s1 fuse keep : Int) (torn all : Option (List Int × Int × List Int × Int)) : sp.f true true false l0 s0 l1 s1 fuse keep torn all = some (l0, s0, l1, s1, fuse, keep, false, 12) := rfl
theorem sp_torn (l0 : List Int) (s0 : Int) (l1 : List Int) (s1 fuse keep : Int) (torn all : Option (List Int × Int × List Int × Int)) (h : fuse = 0) : sp.f true false false l0 s0 l1 s1 fuse keep torn all = torn.bind fun q => (disk_lost.f q.1 q.2.1 q.2.2.1 q.2.2.2 0 keep false keep).bind fun r => some (r.1, r.2.1, r.2.2.1, r.2.2.2.1, r.2.2.2.2.1, r.2.2.2.2.2.1, r.2.2.2.2.2.2, 14) := by
  unfold sp.f; rw [if_pos rfl, if_neg (by decide), if_neg (by decide), if_pos h]
theorem sp_all (l0 : List Int) (s0 : Int) (l1 : List Int) (s1 fuse keep : Int) (torn all : Option (List Int × Int × List Int × Int)) (h : ¬ fuse = 0) (hf : -1 ≤ fuse) (hf' : fuse ≤ 9223372036854775807) : sp.f true false false l0 s0 l1 s1 fuse keep torn all = all.bind fun q => some (q.1, q.2.1, q.2.2.1, q.2.2.2, burnt fuse, keep, false, 0) := by
  unfold sp.f; rw [if_pos rfl, if_neg (by decide), if_neg (by decide), if_neg h, burnt_w fuse hf hf']
theorem same_self (l0 : List Int) (s0 : Int) (l1 : List Int) (s1 fu ke : Int) (dn : Bool) : wristbandref17_Same.f 3 l0 s0 l1 s1 fu ke dn l0 s0 l1 s1 fu ke dn = some true := by
  unfold wristbandref17_Same.f
  rw [wristbandref17_Same.l0, if_pos (by omega), if_pos rfl, if_pos rfl, if_pos rfl, show wrap64 (0 + 1) = 1 by unfold wrap64; rfl, wristbandref17_Same.l0, if_pos (by omega), if_neg (by omega), if_pos rfl, if_pos rfl, if_pos rfl, show wrap64 (1 + 1) = 2 by unfold wrap64; rfl, wristbandref17_Same.l0, if_neg (by omega), if_pos rfl, if_pos rfl, beq_self_eq_true]
theorem ls_cn (l : List Int) (s a : Int) (h : OkA l s) (ha : 0 ≤ a) : s + (ls.d l.length s a : Int) = (cn l.length s a : Int) := by
  unfold OkA at h
  unfold ls.d cn
  split
  · omega
  · split <;> omega
theorem lose_eq (l0 : List Int) (s0 : Int) (l1 : List Int) (s1 fuse keep : Int) (dn : Bool) (a : Int) (h0 : OkA l0 s0) (h1 : OkA l1 s1) (ha : 0 ≤ a) (ha' : a ≤ 9223372036854775807) :
    wristbandref17_Lose.f l0 s0 l1 s1 fuse keep dn a = disk_lost.f l0 s0 l1 s1 fuse keep dn a := by
  rw [lost_f _ _ _ _ _ _ _ _ h0 h1 ha]
  unfold wristbandref17_Lose.f
  rw [ls_cn l0 s0 a h0 ha, ls_cn l1 s1 a h1 ha]
  unfold OkA at h0 h1
  rw [if_pos ⟨⟨h0.1, h0.2.1, by omega⟩, ⟨h1.1, h1.2.1, by omega⟩, by omega⟩, Int.toNat_natCast, Int.toNat_natCast]
/-- One answer of both, and it is the same as itself. -/
def Both (f g : Option (List Int × Int × List Int × Int × Int × Int × Bool × Int)) : Prop := ∃ (z0 : List Int) (t0 : Int) (z1 : List Int) (t1 fu ke : Int) (dn : Bool) (e : Int), f = some (z0, t0, z1, t1, fu, ke, dn, e) ∧ g = some (z0, t0, z1, t1, fu, ke, dn, e) ∧ wristbandref17_Same.f 3 z0 t0 z1 t1 fu ke dn z0 t0 z1 t1 fu ke dn = some true
theorem Both.mk' {f g : Option (List Int × Int × List Int × Int × Int × Int × Bool × Int)} {r : List Int × Int × List Int × Int × Int × Int × Bool × Int} (hf : f = some r) (hg : g = some r) : Both f g :=
  ⟨r.1, r.2.1, r.2.2.1, r.2.2.2.1, r.2.2.2.2.1, r.2.2.2.2.2.1, r.2.2.2.2.2.2.1, r.2.2.2.2.2.2.2, hf, hg, same_self _ _ _ _ _ _ _⟩
theorem Both.steps (ok full full' dn : Bool) (l0 : List Int) (s0 : Int) (l1 : List Int) (s1 fuse keep : Int) (torn all torn' all' : Option (List Int × Int × List Int × Int)) (q q' : List Int × Int × List Int × Int)
    (hok : ok = true → OkA l0 s0 ∧ OkA l1 s1 ∧ -1 ≤ fuse ∧ 0 ≤ keep) (hk : keep ≤ 9223372036854775807) (hf : ok = true → full' = full)
    (h1 : ok = true → full = false → torn = some q ∧ torn' = some q ∧ OkA q.1 q.2.1 ∧ OkA q.2.2.1 q.2.2.2) (h2 : ok = true → full = false → all = some q' ∧ all' = some q') :
    Both (sp.f ok full dn l0 s0 l1 s1 fuse keep torn all) (rp.f ok full' dn l0 s0 l1 s1 fuse keep torn' all') := by
  unfold sp.f rp.f
  cases ok with
  | false => exact Both.mk' rfl rfl
  | true =>
    obtain ⟨o0, o1, hfu, hke⟩ := hok rfl
    rw [hf rfl]
    cases dn with
    | true => exact Both.mk' rfl rfl
    | false =>
      cases full with
      | true => exact Both.mk' rfl rfl
      | false =>
        obtain ⟨e1, e2, a0, a1⟩ := h1 rfl rfl
        obtain ⟨e3, e4⟩ := h2 rfl rfl
        rw [e1, e2, e3, e4]
        simp only [Option.bind_some, if_true, Bool.false_eq_true, if_false]
        by_cases e0 : fuse = 0
        · rw [if_pos e0, if_pos e0, lose_eq _ _ _ _ _ _ _ _ a0 a1 hke hk, lost_f _ _ _ _ _ _ _ _ a0 a1 hke]
          exact Both.mk' rfl rfl
        · rw [if_neg e0, if_neg e0]
          exact Both.mk' rfl rfl
theorem okk {l0 : List Int} {s0 : Int} {l1 : List Int} {s1 fuse keep k : Int} (h : (dk.right l0.length s0 l1.length s1 fuse keep && (decide (0 ≤ k) && decide (k < 2))) = true) : (OkA l0 s0 ∧ OkA l1 s1 ∧ -1 ≤ fuse ∧ 0 ≤ keep) ∧ (k = 0 ∨ k = 1) := by
  simp only [Bool.and_eq_true, decide_eq_true_eq] at h
  exact ⟨(right_iff _ _ _ _ _ _).1 h.1, by omega⟩
theorem tornl (b : List Int) (keep : Int) (h : 0 ≤ keep) : (if keep < (b.length : Int) then b.take keep.toNat else b) = b.take (min keep.toNat b.length) := by
  by_cases e : keep < (b.length : Int)
  · rw [if_pos e, Nat.min_eq_left (by omega)]
  · rw [if_neg e, Nat.min_eq_right (by omega), List.take_length]
theorem both_write (l0 : List Int) (s0 : Int) (l1 : List Int) (s1 fuse keep : Int) (dn : Bool) (k : Int) (b : List Int) (hb : b.length ≤ 3000) (hk : keep ≤ 9223372036854775807) :
    Both (disk_Write.f l0 s0 l1 s1 fuse keep dn k b) (wristbandref17_Write.f l0 s0 l1 s1 fuse keep dn k b) := by
  unfold disk_Write.f wristbandref17_Write.f
  rw [if_pos (show b.length < 140737488355328 by omega)]
  have hn (l : List Int) (h : l.length ≤ 1048576) (m : Nat) : l.length + (b.take m).length < 140737488355328 := by rw [List.length_take]; omega
  refine Both.steps _ _ _ _ _ _ _ _ _ _ _ _ _ _ (if k = 0 then (l0 ++ b.take (min keep.toNat b.length), s0, l1, s1) else (l0, s0, l1 ++ b.take (min keep.toNat b.length), s1)) (if k = 0 then (l0 ++ b, s0, l1, s1) else (l0, s0, l1 ++ b, s1)) (fun h => (okk h).1) hk ?_ ?_ ?_
  · intro h
    obtain ⟨⟨o0, o1, _, _⟩, rfl | rfl⟩ := okk h
    · have c : (0 : Int) ≤ 0 ∧ (0 : Int) < 2 := by omega
      rw [if_pos c, if_pos c, if_pos (rfl : (0 : Int) = 0), full_w _ _ o0.2.2]
    · have c : (0 : Int) ≤ 1 ∧ (1 : Int) < 2 := by omega
      rw [if_pos c, if_pos c, if_neg (by omega : ¬ (1 : Int) = 0), full_w _ _ o1.2.2]
  · intro h hf
    obtain ⟨⟨o0, o1, _, ke⟩, hk'⟩ := okk h
    have hm : min keep.toNat b.length ≤ b.length := Nat.min_le_right _ _
    rw [wr_n _ _ ke, tornl b keep ke]
    rcases hk' with rfl | rfl
    · rw [if_pos (by omega), if_pos rfl, full_w _ _ o0.2.2] at hf
      have := of_decide_eq_false hf
      rw [if_pos rfl, concat8 _ _ (hn l0 o0.2.2 _)]
      refine ⟨rfl, rfl, ?_, o1⟩
      unfold OkA at o0 ⊢
      simp only [if_true, List.length_append, List.length_take]
      omega
    · rw [if_pos (by omega), if_neg (by omega), full_w _ _ o1.2.2] at hf
      have := of_decide_eq_false hf
      rw [if_neg (by omega), concat8 _ _ (hn l1 o1.2.2 _)]
      refine ⟨rfl, rfl, o0, ?_⟩
      unfold OkA at o1 ⊢
      show 0 ≤ s1 ∧ s1 ≤ ((l1 ++ b.take (min keep.toNat b.length)).length : Int) ∧ (l1 ++ b.take (min keep.toNat b.length)).length ≤ 1048576
      rw [List.length_append, List.length_take]
      omega
  · intro h hf
    obtain ⟨⟨o0, o1, _, _⟩, rfl | rfl⟩ := okk h
    · unfold OkA at o0
      rw [if_pos rfl, concat8 _ _ (by omega)]; exact ⟨rfl, rfl⟩
    · unfold OkA at o1
      rw [if_neg (by omega), concat8 _ _ (by omega)]; exact ⟨rfl, rfl⟩
theorem both_sync (l0 : List Int) (s0 : Int) (l1 : List Int) (s1 fuse keep : Int) (dn : Bool) (k : Int) (hk : keep ≤ 9223372036854775807) :
    Both (disk_Sync.f l0 s0 l1 s1 fuse keep dn k) (wristbandref17_Sync.f l0 s0 l1 s1 fuse keep dn k) := by
  unfold disk_Sync.f wristbandref17_Sync.f
  exact Both.steps _ _ _ _ _ _ _ _ _ _ _ _ _ _ _ _ (fun h => (okk h).1) hk (fun _ => rfl) (fun h _ => ⟨rfl, rfl, (okk h).1.1, (okk h).1.2.1⟩) (fun _ _ => ⟨rfl, rfl⟩)
theorem both_wipe (l0 : List Int) (s0 : Int) (l1 : List Int) (s1 fuse keep : Int) (dn : Bool) (k : Int) (hk : keep ≤ 9223372036854775807) :
    Both (disk_Wipe.f l0 s0 l1 s1 fuse keep dn k) (wristbandref17_Wipe.f l0 s0 l1 s1 fuse keep dn k) := by
  unfold disk_Wipe.f wristbandref17_Wipe.f
  exact Both.steps _ _ _ _ _ _ _ _ _ _ _ _ _ _ _ _ (fun h => (okk h).1) hk (fun _ => rfl) (fun h _ => ⟨rfl, rfl, (okk h).1.1, (okk h).1.2.1⟩) (fun _ _ => ⟨rfl, rfl⟩)
theorem both_crash (l0 : List Int) (s0 : Int) (l1 : List Int) (s1 fuse keep : Int) (dn : Bool) (a : Int) (ha : a ≤ 9223372036854775807) :
    Both (disk_Crash.f 3 l0 s0 l1 s1 fuse keep dn a) (wristbandref17_Crash.f 3 l0 s0 l1 s1 fuse keep dn a) := by
  unfold disk_Crash.f wristbandref17_Crash.f disk_Right.f
  rw [rr_f]
  simp only [Option.bind_some]
  cases hr : dk.right l0.length s0 l1.length s1 fuse keep with
  | false => exact Both.mk' rfl rfl
  | true =>
    obtain ⟨o0, o1, _, _⟩ := (right_iff _ _ _ _ _ _).1 hr
    rw [if_pos rfl, if_pos rfl]
    by_cases e : a < 0
    · rw [decide_eq_true e]; exact Both.mk' rfl rfl
    · rw [decide_eq_false e]
      cases dn with
      | true => exact Both.mk' rfl rfl
      | false =>
        simp only [disk_Crash.j0, wristbandref17_Crash.j0, Bool.false_eq_true, if_false]
        rw [lose_eq _ _ _ _ _ _ _ _ o0 o1 (by omega) ha, lost_f _ _ _ _ _ _ _ _ o0 o1 (by omega)]
        exact Both.mk' rfl rfl
theorem both_rise (l0 : List Int) (s0 : Int) (l1 : List Int) (s1 fuse keep : Int) (dn : Bool) :
    Both (disk_Rise.f l0 s0 l1 s1 fuse keep dn) (wristbandref17_Rise.f 3 l0 s0 l1 s1 fuse keep dn) := by
  unfold disk_Rise.f wristbandref17_Rise.f disk_Right.f
  rw [rr_f]
  simp only [Option.bind_some]
  cases dk.right l0.length s0 l1.length s1 fuse keep with
  | false => exact Both.mk' rfl rfl
  | true => cases dn <;> exact Both.mk' rfl rfl
theorem new_same : wristbandref17_Same.f 3 [] 0 [] 0 (-1) 0 false [] 0 [] 0 (-1) 0 false = some true := same_self _ _ _ _ _ _ _
theorem DiskRight : wristbandlaw17_DiskRight.Pure := by
  intro l0 s0 l1 s1 fu ke dn k b a3 hke ha
  unfold wristbandref17_Short.f
  by_cases h0 : (l0.length : Int) ≤ 20000
  · rw [if_pos h0]
    by_cases h1 : (l1.length : Int) ≤ 20000
    · rw [decide_eq_true h1]
      by_cases hb : 3000 < b.length
      · exact .inr (.inl ⟨rfl, hb⟩)
      · refine .inr (.inr ⟨rfl, hb, ?_⟩)
        obtain ⟨z0_0, t0_0, z1_0, t1_0, fu_0, ke_0, dn_0, er_0, a0, b0, c0⟩ := both_write l0 s0 l1 s1 fu ke dn k b (by omega) hke
        obtain ⟨z0_1, t0_1, z1_1, t1_1, fu_1, ke_1, dn_1, er_1, a1, b1, c1⟩ := both_sync l0 s0 l1 s1 fu ke dn k hke
        obtain ⟨z0_2, t0_2, z1_2, t1_2, fu_2, ke_2, dn_2, er_2, a2, b2, c2⟩ := both_wipe l0 s0 l1 s1 fu ke dn k hke
        obtain ⟨z0_3, t0_3, z1_3, t1_3, fu_3, ke_3, dn_3, er_3, a3', b3, c3⟩ := both_crash l0 s0 l1 s1 fu ke dn a3 ha
        obtain ⟨z0_4, t0_4, z1_4, t1_4, fu_4, ke_4, dn_4, er_4, a4, b4, c4⟩ := both_rise l0 s0 l1 s1 fu ke dn
        exact ⟨z0_0, t0_0, z1_0, t1_0, fu_0, ke_0, dn_0, er_0, z0_1, t0_1, z1_1, t1_1, fu_1, ke_1, dn_1, er_1, z0_2, t0_2, z1_2, t1_2, fu_2, ke_2, dn_2, er_2, z0_3, t0_3, z1_3, t1_3, fu_3, ke_3, dn_3, er_3, z0_4, t0_4, z1_4, t1_4, fu_4, ke_4, dn_4, er_4, [], _, a0, b0, c0, a1, b1, c1, a2, b2, c2, a3', b3, c3, a4, b4, c4, rfl, rr_f _ _ _ _ _ _ _, rfl, new_same⟩
    · rw [decide_eq_false h1]; exact .inl rfl
  · rw [if_neg h0]; exact .inl rfl

end Go.Proofs.Ytnpkhkhlofkbhaa.Pure
