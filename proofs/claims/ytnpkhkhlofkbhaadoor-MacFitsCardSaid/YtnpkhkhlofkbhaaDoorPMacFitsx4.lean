-- made by a program of this session (its printer) out of what Lean prints of the given program
import Derived.Test.YtnpkhkhlofkbhaaDoorPMacFitsx0
import Derived.Test.YtnpkhkhlofkbhaaDoorPMacFitsx2
import Derived.Test.YtnpkhkhlofkbhaaDoorPMacFitsx3
namespace Go.Proofs.YtnpkhkhlofkbhaaDoor.PMacFits
open Go.RowKit Go.Proofs.YtnpkhkhlofkbhaaDoorW.PrintWords Go.Proofs.YtnpkhkhlofkbhaaDoorW.PrintLast Go.Proofs.YtnpkhkhlofkbhaaDoorW.PrintMore
attribute [local go_sem] max2_int min2_int max_two min_two max_three min_three max_four min_four   -- for this text's walks alone
set_option linter.unusedVariables false
set_option linter.unusedSimpArgs false

/-- A state of type 62 at block g of W; what its slices lead to came in by w0. -/
def IsS62 (w0 W : World) (g : Nat) (f0 : Int) (f1 : List (S84)) : Prop := ∃ A1 c1, W.heap[g]? = some (.cells #[.int .i64 f0, .slice A1 f1.length c1] 62 (0, 0)) ∧ w0.heap.size ≤ g ∧ Kd.C k84 w0 A1 f1.length f1
theorem IsS62.grown {w0 W : World} {g : Nat} {f0 : Int} {f1 : List (S84)} {W1 : World} {row : Option Nat} (h : IsS62 w0 W g f0 f1) (hw : W.grownBy W1 row) (hne : some g ≠ row) : IsS62 w0 W1 g f0 f1 := by
  obtain ⟨A1, c1, hb, hg, hr1⟩ := h
  exact ⟨A1, c1, blk_grown hb hw hne, hg, hr1⟩
theorem IsS62.own_neN {w0 W : World} {g : Nat} {f0 : Int} {f1 : List (S84)} {α : Type} {d : Kd α} {e : Nat} {base : Nat} {ok : Nat → Prop} {v : Value} {xs : List α} (h : IsS62 w0 W g f0 f1) (ho : Kd.N d e W base ok v xs) (ht : e ≠ 62) : some g ≠ v.ownBlock := by
  obtain ⟨A1, c1, hb, hg, hr1⟩ := h
  exact Kd.N_ne ho hb ht
theorem IsS62.fresh {w0 W : World} {g : Nat} {f0 : Int} {f1 : List (S84)} (h : IsS62 w0 W g f0 f1) : ∀ k, W.heap.size ≤ k → k ≠ g := by
  obtain ⟨A1, c1, hb, hg, hr1⟩ := h
  exact Kd.freshB hb
theorem IsS62.kept {w0 W : World} {g : Nat} {f0 : Int} {f1 : List (S84)} {W1 : World} {S : Nat → Prop} (h : IsS62 w0 W g f0 f1) (hk : Kept W W1 S) (hne : ¬ S g) : IsS62 w0 W1 g f0 f1 := by
  obtain ⟨A1, c1, hb, hg, hr1⟩ := h
  exact ⟨A1, c1, blk_kept hb hk hne, hg, hr1⟩
theorem IsS62.below {w0 W : World} {g : Nat} {f0 : Int} {f1 : List (S84)} {W1 : World} (h : IsS62 w0 W g f0 f1) (hw : Below W.heap.size W W1) : IsS62 w0 W1 g f0 f1 := h.grown (grown_of_below hw none) (by simp)
theorem IsS62.alloc {w0 W : World} {g : Nat} {f0 : Int} {f1 : List (S84)} (h : IsS62 w0 W g f0 f1) (o : Obj) : IsS62 w0 (W.alloc o) g f0 f1 := h.below (below_alloc (Below.refl _ _) o)
theorem IsS62.drewN {w0 W : World} {g : Nat} {f0 : Int} {f1 : List (S84)} (h : IsS62 w0 W g f0 f1) (m : Nat) : IsS62 w0 (W.drewN m) g f0 f1 := h
theorem IsS62.drew {w0 W : World} {g : Nat} {f0 : Int} {f1 : List (S84)} (h : IsS62 w0 W g f0 f1) : IsS62 w0 W.drew g f0 f1 := h
theorem IsS62.at_ {w0 W : World} {g : Nat} {f0 : Int} {f1 : List (S84)} {w' : World} {m : Nat} (hq : W.drewN m = w') (h : IsS62 w0 W g f0 f1) : IsS62 w0 w' g f0 f1 := by subst hq; exact IsS62.drewN h m
theorem IsS62.apart {w0 W : World} {g : Nat} {f0 : Int} {f1 : List (S84)} {α : Type} {d : Kd α} {e : Nat} {base : Nat} {ok : Nat → Prop} {v : Value} {xs : List α} (h : IsS62 w0 W g f0 f1) (ho : d.R e W base ok v xs) (ht : ∀ q, q ∈ e :: d.E → q ≠ 62) : d.R e W base (fun k => ok k ∧ k ≠ g) v xs := by
  obtain ⟨A1, c1, hb, hg, hr1⟩ := h
  exact Kd.R_types ho hb ht
theorem IsS62.own_ne {w0 W : World} {g : Nat} {f0 : Int} {f1 : List (S84)} {α : Type} {d : Kd α} {e : Nat} {base : Nat} {ok : Nat → Prop} {v : Value} {xs : List α} (h : IsS62 w0 W g f0 f1) (ho : d.R e W base ok v xs) (ht : e ≠ 62) : some g ≠ v.ownBlock := by
  obtain ⟨A1, c1, hb, hg, hr1⟩ := h
  exact Kd.R_ne ho hb ht
theorem IsS62.apartQ {w0 W : World} {g : Nat} {f0 : Int} {f1 : List (S84)} {α : Type} {d : Kd α} {e : Nat} {base : Nat} {ok : Nat → Prop} {v : Value} {xs : List α} (h : IsS62 w0 W g f0 f1) (ho : d.Q e W base ok v xs) (ht : ∀ q, q ∈ e :: d.E → q ≠ 62) : d.Q e W base (fun k => ok k ∧ k ≠ g) v xs := by
  obtain ⟨A1, c1, hb, hg, hr1⟩ := h
  exact Kd.Q_types ho hb ht
theorem IsS62.own_neQ {w0 W : World} {g : Nat} {f0 : Int} {f1 : List (S84)} {α : Type} {d : Kd α} {e : Nat} {base : Nat} {ok : Nat → Prop} {v : Value} {xs : List α} (h : IsS62 w0 W g f0 f1) (ho : d.Q e W base ok v xs) (ht : e ≠ 62) : some g ≠ v.ownBlock := by
  obtain ⟨A1, c1, hb, hg, hr1⟩ := h
  exact Kd.Q_ne ho hb ht
theorem IsS62.apartS {w0 W : World} {g : Nat} {f0 : Int} {f1 : List (S84)} {α : Type} {d : Kd α} {e : Nat} {base : Nat} {ok : Nat → Prop} {v : Value} {xs : List α} (h : IsS62 w0 W g f0 f1) (ho : d.S e W base ok v xs) (ht : ∀ q, q ∈ e :: d.E → q ≠ 62) : d.S e W base (fun k => ok k ∧ k ≠ g) v xs := by
  obtain ⟨A1, c1, hb, hg, hr1⟩ := h
  exact Kd.S_types ho hb ht
theorem IsS62.own_neS {w0 W : World} {g : Nat} {f0 : Int} {f1 : List (S84)} {α : Type} {d : Kd α} {e : Nat} {base : Nat} {ok : Nat → Prop} {v : Value} {xs : List α} (h : IsS62 w0 W g f0 f1) (ho : d.S e W base ok v xs) (ht : e ≠ 62) : some g ≠ v.ownBlock := by
  obtain ⟨A1, c1, hb, hg, hr1⟩ := h
  exact Kd.S_ne ho hb ht
theorem IsS62.lt {w0 W : World} {g : Nat} {f0 : Int} {f1 : List (S84)} (h : IsS62 w0 W g f0 f1) : g < W.heap.size := by
  obtain ⟨A1, c1, hb, hg, hr1⟩ := h
  exact blk_lt hb
theorem IsS62.ge {w0 W : World} {g : Nat} {f0 : Int} {f1 : List (S84)} (h : IsS62 w0 W g f0 f1) : w0.heap.size ≤ g := by
  obtain ⟨A1, c1, hb, hg, hr1⟩ := h
  exact hg
theorem IsS62.ne_blk {w0 W : World} {g : Nat} {f0 : Int} {f1 : List (S84)} {a : Nat} {cs : Array Value} {t : TypeId} {fr : Nat × Nat} (h : IsS62 w0 W g f0 f1) (hb2 : W.heap[a]? = some (.cells cs t fr)) (ht : t ≠ 62) : g ≠ a := by
  obtain ⟨A1, c1, hb, hg, hr1⟩ := h
  rintro rfl
  rw [hb] at hb2
  injection hb2 with hb2
  injection hb2 with _ ht2
  exact ht ht2.symm
theorem IsS62.far {w0 W : World} {g : Nat} {f0 : Int} {f1 : List (S84)} {p : Addr} (h : IsS62 w0 W g f0 f1) (hne : g ≠ p.block) (u : Value) : IsS62 w0 (W.setCell p u) g f0 f1 := by
  obtain ⟨A1, c1, hb, hg, hr1⟩ := h
  exact ⟨A1, c1, blk_far hb hne u, hg, hr1⟩
theorem cellS62_0 {W : World} {g : Nat} {A1 : Option Addr} {c1 : Nat} {f0 : Int} {f1 : List (S84)} (h : W.heap[g]? = some (.cells #[.int .i64 f0, .slice A1 f1.length c1] 62 (0, 0))) : W.cell? ⟨g, 0, none⟩ = some (.int .i64 f0) := (blk_cell h 0).trans rfl
theorem IsS62.set_0 {w0 W : World} {g : Nat} {f0 : Int} {f1 : List (S84)} (h : IsS62 w0 W g f0 f1) (x : Int) : IsS62 w0 (W.setCell ⟨g, 0, none⟩ (.int .i64 x)) g x f1 := by
  obtain ⟨A1, c1, hb, hg, hr1⟩ := h
  exact ⟨A1, c1, by simpa using blk_set hb 0 (.int .i64 x), hg, hr1⟩
theorem cellS62_1 {W : World} {g : Nat} {A1 : Option Addr} {c1 : Nat} {f0 : Int} {f1 : List (S84)} (h : W.heap[g]? = some (.cells #[.int .i64 f0, .slice A1 f1.length c1] 62 (0, 0))) : W.cell? ⟨g, 1, none⟩ = some (.slice A1 f1.length c1) := (blk_cell h 1).trans rfl
theorem IsS62.new (w0 W : World) (A1 : Option Addr) (c1 : Nat) (f0 : Int) (f1 : List (S84)) (hB : Below w0.heap.size w0 W) (hr1 : Kd.C k84 w0 A1 f1.length f1) : IsS62 w0 (W.alloc (.cells #[.int .i64 f0, .slice A1 f1.length c1] 62)) W.heap.size f0 f1 := ⟨A1, c1, by simpa using heap_alloc_new W _, hB.size, hr1⟩

/-! ### mac_Right: function 42 -/
def mac_Right.f (a0_0 : Int) (l0_1 : List (S84)) : Option Bool := if a0_0 = 1 then some (decide (l0_1.length = 0)) else if a0_0 = 2 then term_Right.f l0_1 else some false
/-! The makers behind the interface. -/
def mk.eng (k : Int) (A : Option Addr) (n c : Nat) : Value := .agg #[.int .i64 k, .slice A n c]
theorem mk.con (A0 : Option Addr) (c0 : Nat) (l0 : List S84) (w : World) (h : l0.length = 0) : Calls Tryd.prog 61 #[.agg #[.int .i64 1, .slice A0 l0.length c0]] w fun e w' => e = .returned (.iface 92 (.agg #[.int .i64 1, .slice A0 l0.length c0])) ∧ Below w.heap.size w w' := by
  have b1 : (l0.length == 0) = true := beq_iff_eq.2 h
  have b2 : ((l0.length : Int) == 0) = true := beq_iff_eq.2 (by omega)
  clear h
  go_enter Tryd.func61, Tryd.ntmps61
  go_wp2
  go_ret
  exact ⟨rfl, (Below.refl _ _).alloc (Nat.le_refl _) _⟩
theorem mk.sym (A0 : Option Addr) (c0 : Nat) (l0 : List S84) (w : World) (hr0 : Kd.C k84 w A0 l0.length l0) (hc0 : l0.length ≤ c0) (h : term_Right.f l0 = some true) : Calls Tryd.prog 61 #[.agg #[.int .i64 2, .slice A0 l0.length c0]] w fun e w' => e = .returned (.iface 93 (.agg #[.int .i64 2, .slice A0 l0.length c0])) ∧ Below w.heap.size w w' := by
  have HR := Aside0.mk hr0; have HC := Aside0.mk hc0; have HT := Aside0.mk h
  clear hr0 hc0 h
  go_enter Tryd.func61, Tryd.ntmps61
  have hb0 := below_alloc (Below.refl w.heap.size w) (.cells #[.int .i64 2, .slice A0 l0.length c0] 62)
  have bk := blk_new w (.cells #[.int .i64 2, .slice A0 l0.length c0] 62)
  go_upto_region 1 with fail
  generalize w.alloc (.cells #[.int .i64 2, .slice A0 l0.length c0] 62) = W at hb0 bk ⊢
  have HB := Aside0.mk hb0; have BK := Aside0.mk bk
  clear hb0 bk
  have c1 := (blk_cell BK.out 0).trans rfl; have c2 := (blk_cell BK.out 1).trans rfl
  go_wp2_with (go_at_call 67; refine Calls.mono (term_Right.calls _ _ l0 true _ (Kd.C_below HR.out HB.out) HC.out HT.out) ?_; rintro e w2 ⟨rfl, hb⟩; have c3 := (blk_cell (blk_below BK.out hb) 0).trans rfl; have c4 := (blk_cell (blk_below BK.out hb) 1).trans rfl; have HB2 := Aside0.mk (below_step HB.out hb); clear hb)
  go_ret
  exact ⟨rfl, HB2.out⟩
theorem mk.no2 (A0 : Option Addr) (c0 : Nat) (l0 : List S84) (w : World) (hr0 : Kd.C k84 w A0 l0.length l0) (hc0 : l0.length ≤ c0) (h : term_Right.f l0 = some false) : Calls Tryd.prog 61 #[.agg #[.int .i64 2, .slice A0 l0.length c0]] w fun e w' => e = .returned .nilIface ∧ Below w.heap.size w w' := by
  have HR := Aside0.mk hr0; have HC := Aside0.mk hc0; have HT := Aside0.mk h
  clear hr0 hc0 h
  go_enter Tryd.func61, Tryd.ntmps61
  have hb0 := below_alloc (Below.refl w.heap.size w) (.cells #[.int .i64 2, .slice A0 l0.length c0] 62)
  have bk := blk_new w (.cells #[.int .i64 2, .slice A0 l0.length c0] 62)
  go_upto_region 1 with fail
  generalize w.alloc (.cells #[.int .i64 2, .slice A0 l0.length c0] 62) = W at hb0 bk ⊢
  have HB := Aside0.mk hb0; have BK := Aside0.mk bk
  clear hb0 bk
  have c1 := (blk_cell BK.out 0).trans rfl; have c2 := (blk_cell BK.out 1).trans rfl
  go_wp2_with (go_at_call 67; refine Calls.mono (term_Right.calls _ _ l0 false _ (Kd.C_below HR.out HB.out) HC.out HT.out) ?_; rintro e w2 ⟨rfl, hb⟩; have HB2 := Aside0.mk (below_step HB.out hb); clear hb)
  go_ret
  exact ⟨rfl, HB2.out⟩
theorem mk.no (k : Int) (A0 : Option Addr) (c0 : Nat) (l0 : List S84) (w : World) (h1 : ¬ (k = 1 ∧ l0.length = 0)) (h2 : k ≠ 2) : Calls Tryd.prog 61 #[.agg #[.int .i64 k, .slice A0 l0.length c0]] w fun e w' => e = .returned .nilIface ∧ Below w.heap.size w w' := by
  have b3 : (k == 2) = false := beq_eq_false_iff_ne.2 h2
  clear h2
  by_cases hk : k = 1
  · subst hk
    have hn : l0.length ≠ 0 := fun h => h1 ⟨rfl, h⟩
    have b1 : (l0.length == 0) = false := beq_eq_false_iff_ne.2 hn
    have b2 : ((l0.length : Int) == 0) = false := beq_eq_false_iff_ne.2 (by omega)
    clear h1 hn
    go_enter Tryd.func61, Tryd.ntmps61
    go_wp2
    go_ret
    exact ⟨rfl, (Below.refl _ _).alloc (Nat.le_refl _) _⟩
  · have b1 : (k == 1) = false := beq_eq_false_iff_ne.2 hk
    clear h1 hk
    go_enter Tryd.func61, Tryd.ntmps61
    go_wp2
    go_ret
    exact ⟨rfl, (Below.refl _ _).alloc (Nat.le_refl _) _⟩
theorem mk.two (w : World) (o1 o2 : Obj) : ((w.alloc o1).alloc o2).heap[w.heap.size]? = some o1 ∧ ((w.alloc o1).alloc o2).heap[w.heap.size + 1]? = some o2 ∧ Below w.heap.size w ((w.alloc o1).alloc o2) ∧ ((w.alloc o1).alloc o2).heap.size = w.heap.size + 2 := by
  have e1 := alloc_size' w o1
  refine ⟨blk_alloc (blk_new w o1) _, ?_, ((Below.refl _ _).alloc (Nat.le_refl _) o1).alloc (by rw [e1]; omega) o2, by rw [alloc_size', e1]⟩
  have := blk_new (w.alloc o1) o2
  rwa [e1] at this
theorem mk.set2 {W : World} {g t : Nat} {a b c d : Value} (h : W.heap[g]? = some (.cells #[a, b] t (0, 0))) : ((W.setCell ⟨g, 0, none⟩ c).setCell ⟨g, 1, none⟩ d).heap[g]? = some (.cells #[c, d] t (0, 0)) :=
  blk_put (cs := #[c, b]) (blk_put (cs := #[a, b]) h 0 c rfl) 1 d rfl
theorem mk.size2 {W : World} {g : Nat} {c d : Value} : ((W.setCell ⟨g, 0, none⟩ c).setCell ⟨g, 1, none⟩ d).heap.size = W.heap.size := by simp [World.setCell]
theorem mk.far2 {α : Type} {D : Kd α} {W : World} {g e n : Nat} {ok : Nat → Prop} {c d v : Value} {xs : List α} (h : Kd.V D e W n ok v xs) (hk : ∀ k, ok k → k ≠ g) : Kd.V D e ((W.setCell ⟨g, 0, none⟩ c).setCell ⟨g, 1, none⟩ d) n ok v xs :=
  Kd.V_far (p := ⟨g, 1, none⟩) (Kd.V_far (p := ⟨g, 0, none⟩) h hk c) hk d
/-- The first eight bytes. -/
theorem mk.cut8 (A : Option Addr) (c : Nat) (h t : List Int) (ht : t = h.take 8) (h8 : 8 ≤ h.length) (hc : h.length ≤ c) : ∀ W : World, (Instr.slice 24 (.slice A h.length c) none (some (.int .i64 8)) none).run Tryd.prog W = .ok (.slice A t.length c) W := by
  obtain ⟨i0, hi0, _⟩ := info_parts info5
  intro W
  have := cut_to (P := Tryd.prog) 24 5 .i64 Tryd.underlying24 hi0 A h.length c 8 (by omega) (by omega) hc W
  rw [this, ht, List.length_take, Nat.min_eq_left h8]
  rfl
set_option maxHeartbeats 3200000 in
theorem mk.ct (k : Nat) (A0 : Option Addr) (c0 : Nat) (l0 : List S84) (A1 : Option Addr) (c1 : Nat) (l1 : List Int) (A2 : Option Addr) (c2 : Nat) (l2 : List Int) (h t : List Int) (w : World) (hr1 : Kd.C (Kd.int .u8) w A1 l1.length l1) (hc1 : l1.length ≤ c1) (hr2 : Kd.C (Kd.int .u8) w A2 l2.length l2) (hc2 : l2.length ≤ c2) (hL0 : Kd.C (Kd.int .u32) w (some ⟨0, 0, none⟩) 64 shaK) (hL1 : Kd.C (Kd.int .u32) w (some ⟨1, 0, none⟩) 8 shaF) (hm : hmac_Mac.f k l1 l2 = some h) (h8 : 8 ≤ h.length) (ht : t = h.take 8) :
    Calls Tryd.prog 88 #[.agg #[.int .i64 1, .slice A0 l0.length c0], .slice A1 l1.length c1, .slice A2 l2.length c2] w fun e w' => ∃ v : Value, e = .returned (.tuple #[.agg #[.int .i64 1, .slice A0 l0.length c0], v]) ∧ Kd.V (Kd.int .u8) 5 w' w.heap.size (fun k_ => w.heap.size ≤ k_) v t ∧ Below w.heap.size w w' := by
  have HTT := Aside0.mk ht; clear ht
  have HR1 := Aside0.mk hr1; have HC1 := Aside0.mk hc1; have HR2 := Aside0.mk hr2; have HC2 := Aside0.mk hc2; have HL0 := Aside0.mk hL0; have HL1 := Aside0.mk hL1; have HM := Aside0.mk hm; have H8 := Aside0.mk h8
  clear hr1 hc1 hr2 hc2 hL0 hL1 hm h8
  go_enter Tryd.func88, Tryd.ntmps88
  obtain ⟨bb, br, hb, hs⟩ := mk.two w (.cells #[.int .i64 1, .slice A0 l0.length c0] 92) (.cells #[.int .i64 0, .slice none 0 0] 62)
  go_upto_region 1 with fail
  have BB := Aside0.mk bb; have BR := Aside0.mk br; have HB := Aside0.mk hb; have HS := Aside0.mk hs
  clear bb br hb hs
  generalize (w.alloc (.cells #[.int .i64 1, .slice A0 l0.length c0] 92)).alloc (.cells #[.int .i64 0, .slice none 0 0] 62) = W at BB BR HB HS ⊢
  have H := Aside0.mk (below_drew1 (Below.refl W.heap.size W))
  have a0 := (blk_cell (blk_below BB.out H.out) 0).trans rfl; have a1 := (blk_cell (blk_below BB.out H.out) 1).trans rfl
  have r0 := (blk_cell (blk_below BR.out H.out) 0).trans rfl; have r1 := (blk_cell (blk_below BR.out H.out) 1).trans rfl
  have f0 := blk_frozen (blk_below BR.out H.out) 0; have f1 := blk_frozen (blk_below BR.out H.out) 1
  go_region_with (go_at_call 30; refine Calls.mono (hmac_Mac.calls k _ _ l1 (fun k_ => k_ < w.heap.size) _ _ l2 h _ (Kd.C_below HR1.out (below_step HB.out H.out)) HC1.out (Kd.V_mk HC2.out (Kd.F_below (Kd.C_F (Kd.heap_int .u8) HR2.out) (below_step HB.out H.out))) (Kd.C_below HL0.out (below_step HB.out H.out)) (Kd.C_below HL1.out (below_step HB.out H.out)) HM.out) ?_; rintro e w2 ⟨v, rfl, h0, hb⟩; obtain ⟨Ah, ch, rfl⟩ := Kd.R_slice h0; have HH := Aside0.mk h0; have HHC := Aside0.mk (Kd.R_reads' h0).2.1; have hcut := mk.cut8 Ah ch h t HTT.out H8.out HHC.out; have H9 := Aside0.mk (below_step H.out hb); clear H; have H := H9; clear H9; have b0 := (blk_cell (blk_below BB.out H.out) 0).trans rfl; have b1 := (blk_cell (blk_below BB.out H.out) 1).trans rfl; have s0 := (blk_cell (blk_below BR.out H.out) 0).trans rfl; have s1 := (blk_cell (blk_below BR.out H.out) 1).trans rfl; have g0 := blk_frozen (blk_below BR.out H.out) 0; have g1 := blk_frozen (blk_below BR.out H.out) 1; clear hb h0)
  all_goals
    simp only [List.getElem_toArray, List.getElem_cons_succ, List.getElem_cons_zero, Act.put, List.setIfInBounds_toArray, List.set_cons_zero, List.set_cons_succ]
    go_wp2
    refine bodyPost_ret (results_ct rfl _ _ (w.heap.size + 1) 62 _ (0, 0) _ rfl (mk.set2 (blk_below BR.out H.out)) Tryd.underlying62 rfl (by kernel_rfl)) rfl ?_
    refine ⟨_, rfl, ?_, ?_⟩
    · have hF : Kd.F (Kd.int .u8) w2 (fun k_ => w.heap.size + 2 ≤ k_) Ah t.length t := by
        rw [HTT.out]
        exact Kd.F_mono (Kd.F_take (Kd.R_F HH.out) H8.out) (fun k_ hk => by rw [← HS.out]; exact hk)
      have hL : t.length ≤ ch := Nat.le_trans (by rw [HTT.out, List.length_take]; omega) HHC.out
      exact Kd.V_mono (mk.far2 (g := w.heap.size + 1) (n := w.heap.size) (Kd.V_mk hL hF) (fun k_ hk => by omega)) (fun k_ hk => by omega)
    · exact below_set (below_set (below_step HB.out H.out) (by omega)) (by omega)
theorem mk.ck (a v1 v2 : Value) (A0 : Option Addr) (n c0 : Nat) (w : World) : Calls Tryd.prog 87 #[.agg #[a, .slice A0 n c0], v1, v2] w fun e w' => e = .returned (.bool true) ∧ Below w.heap.size w w' := by
  go_enter Tryd.func87, Tryd.ntmps87
  go_wp2
  go_ret
  exact ⟨rfl, (Below.refl _ _).alloc (Nat.le_refl _) _⟩
set_option maxHeartbeats 3200000 in
theorem mk.sk (A0 : Option Addr) (c0 : Nat) (l0 : List S84) (A1 : Option Addr) (c1 : Nat) (l1 : List Int) (A2 : Option Addr) (c2 : Nat) (l2 : List Int) (p : Int) (w : World) (hr0 : Kd.C k84 w A0 l0.length l0) (hc0 : l0.length ≤ c0) (hr1 : Kd.C (Kd.int .u8) w A1 l1.length l1) (hc1 : l1.length ≤ c1) (hr2 : Kd.C (Kd.int .u8) w A2 l2.length l2) (hc2 : l2.length ≤ c2) (h : term_Place.f l0 l1 l2 = some p) :
    Calls Tryd.prog 89 #[.agg #[.int .i64 2, .slice A0 l0.length c0], .slice A1 l1.length c1, .slice A2 l2.length c2] w fun e w' => e = .returned (.bool (decide (0 ≤ p))) ∧ Below w.heap.size w w' := by
  have HR0 := Aside0.mk hr0; have HC0 := Aside0.mk hc0; have HR1 := Aside0.mk hr1; have HC1 := Aside0.mk hc1; have HR2 := Aside0.mk hr2; have HC2 := Aside0.mk hc2; have HP := Aside0.mk h
  clear hr0 hc0 hr1 hc1 hr2 hc2 h
  go_enter Tryd.func89, Tryd.ntmps89
  have HB := Aside0.mk (below_alloc (Below.refl w.heap.size w) (.cells #[.int .i64 2, .slice A0 l0.length c0] 93))
  have BB := Aside0.mk (blk_new w (.cells #[.int .i64 2, .slice A0 l0.length c0] 93))
  go_upto_region 1 with fail
  generalize w.alloc (.cells #[.int .i64 2, .slice A0 l0.length c0] 93) = W at BB HB ⊢
  have a0 := (blk_cell BB.out 0).trans rfl; have a1 := (blk_cell BB.out 1).trans rfl
  go_wp2_with (go_at_call 91; refine Calls.mono (term_Place.calls _ _ l0 _ _ l1 _ _ l2 p _ (Kd.C_below HR0.out HB.out) HC0.out (Kd.C_below HR1.out HB.out) HC1.out (Kd.C_below HR2.out HB.out) HC2.out HP.out) ?_; rintro e w2 ⟨rfl, hb⟩; have HB2 := Aside0.mk (below_step HB.out hb); clear hb)
  go_ret
  exact ⟨rfl, HB2.out⟩
set_option maxHeartbeats 3200000 in
theorem mk.st (k : Nat) (P : Nat → Prop) (A0 : Option Addr) (c0 : Nat) (l0 : List S84) (A1 : Option Addr) (c1 : Nat) (l1 : List Int) (A2 : Option Addr) (c2 : Nat) (l2 : List Int) (q : List S84) (b : List Int) (n : Nat) (w : World) (hs0 : Kd.V k84 84 w n (fun k_ => P k_) (.slice A0 l0.length c0) l0) (hr1 : Kd.C (Kd.int .u8) w A1 l1.length l1) (hc1 : l1.length ≤ c1) (hr2 : Kd.C (Kd.int .u8) w A2 l2.length l2) (hc2 : l2.length ≤ c2) (h : term_Put.f k l0 l1 l2 = some (q, b)) :
    Calls Tryd.prog 90 #[.agg #[.int .i64 2, .slice A0 l0.length c0], .slice A1 l1.length c1, .slice A2 l2.length c2] w fun e w' => ∃ v0 v1 : Value, e = .returned (.tuple #[.agg #[.int .i64 2, v0], v1]) ∧ Kd.V k84 84 w' w.heap.size (fun k_ => P k_ ∨ w.heap.size ≤ k_) v0 q ∧ Kd.V (Kd.int .u8) 5 w' w.heap.size (fun k_ => w.heap.size ≤ k_) v1 b ∧ Below w.heap.size w w' := by
  have HS0 := Aside0.mk hs0; have HR1 := Aside0.mk hr1; have HC1 := Aside0.mk hc1; have HR2 := Aside0.mk hr2; have HC2 := Aside0.mk hc2; have HP := Aside0.mk h
  clear hs0 hr1 hc1 hr2 hc2 h
  go_enter Tryd.func90, Tryd.ntmps90
  obtain ⟨bb, br, hb, hs⟩ := mk.two w (.cells #[.int .i64 2, .slice A0 l0.length c0] 93) (.cells #[.int .i64 0, .slice none 0 0] 62)
  go_upto_region 1 with fail
  have BB := Aside0.mk bb; have BR := Aside0.mk br; have HB := Aside0.mk hb; have HS := Aside0.mk hs
  clear bb br hb hs
  generalize (w.alloc (.cells #[.int .i64 2, .slice A0 l0.length c0] 93)).alloc (.cells #[.int .i64 0, .slice none 0 0] 62) = W at BB BR HB HS ⊢
  have a0 := (blk_cell BB.out 0).trans rfl; have a1 := (blk_cell BB.out 1).trans rfl
  go_upto_region 3 with (go_at_call 92; refine Calls.mono (term_Put.calls k (fun k_ => P k_ ∧ k_ < w.heap.size) _ _ l0 _ _ l1 _ _ l2 q b _ (Kd.V_map (Kd.V_below (Kd.V_bound HS0.out) HB.out) (fun _ h_ => h_)) (Kd.C_below HR1.out HB.out) HC1.out (Kd.C_below HR2.out HB.out) HC2.out HP.out) ?_; rintro e w2 ⟨v0, v1, rfl, h0, h1, hb⟩; obtain ⟨Aq, cq, rfl⟩ := Kd.V_slice h0; obtain ⟨Ab, cb, rfl⟩ := Kd.R_slice h1; have HV0 := Aside0.mk (Kd.V_mono (ok' := fun k_ => (P k_ ∧ k_ < w.heap.size) ∨ w.heap.size + 2 ≤ k_) h0 (fun k_ hk => by rcases hk.1 with hk | hk; exact .inl hk; exact .inr (by rw [← HS.out]; exact hk))); have HV1 := Aside0.mk (Kd.V_mono (ok' := fun k_ => w.heap.size + 2 ≤ k_) (Kd.R_V (base' := w.heap.size) h1) (fun k_ hk => by rw [← HS.out]; exact hk)); have BB2 := Aside0.mk (blk_below BB.out hb); have BR2 := Aside0.mk (blk_below BR.out hb); have HB2 := Aside0.mk (below_step HB.out hb); have b0 := (blk_cell BB2.out 0).trans rfl; have b1 := (blk_cell BB2.out 1).trans rfl; have g1 := blk_frozen BB2.out 1; clear h0 h1 hb)
  have BB3 := Aside0.mk (blk_put (cs' := #[.int .i64 2, .slice Aq q.length cq]) BB2.out 1 (.slice Aq q.length cq) rfl)
  have BR3 := Aside0.mk (blk_far (p := ⟨w.heap.size, 1, none⟩) BR2.out (show w.heap.size + 1 ≠ w.heap.size by omega) (.slice Aq q.length cq))
  have HB3 := Aside0.mk (below_set (j := 1) (v := (.slice Aq q.length cq)) HB2.out (Nat.le_refl w.heap.size))
  have HV03 := Aside0.mk (Kd.V_far (p := ⟨w.heap.size, 1, none⟩) HV0.out (fun k_ hk => by show k_ ≠ w.heap.size; omega) (.slice Aq q.length cq))
  have HV13 := Aside0.mk (Kd.V_far (p := ⟨w.heap.size, 1, none⟩) HV1.out (fun k_ hk => by show k_ ≠ w.heap.size; omega) (.slice Aq q.length cq))
  generalize w2.setCell ⟨w.heap.size, 1, none⟩ (.slice Aq q.length cq) = W3 at BB3 BR3 HB3 HV03 HV13 ⊢
  clear a0 a1 b0 b1 g1 BB BR HB BB2 BR2 HB2 HV0 HV1
  have a0 := (blk_cell BB3.out 0).trans rfl; have a1 := (blk_cell BB3.out 1).trans rfl
  have r0 := (blk_cell BR3.out 0).trans rfl; have r1 := (blk_cell BR3.out 1).trans rfl
  have f0 := blk_frozen BR3.out 0; have f1 := blk_frozen BR3.out 1
  go_wp2
  refine bodyPost_ret (results_ct rfl _ _ (w.heap.size + 1) 62 _ (0, 0) _ rfl (mk.set2 BR3.out) Tryd.underlying62 rfl (by kernel_rfl)) rfl ?_
  refine ⟨_, _, rfl, ?_, ?_, below_set (below_set HB3.out (by omega)) (by omega)⟩
  · exact Kd.V_mono (mk.far2 (g := w.heap.size + 1) (n := w.heap.size) (Kd.V_map HV03.out (fun _ h_ => h_)) (fun k_ hk => by omega)) (fun k_ hk => by rcases hk with hk | hk; exact .inl hk.1; exact .inr (by omega))
  · exact Kd.V_mono (mk.far2 (g := w.heap.size + 1) (n := w.heap.size) (Kd.V_map HV13.out (fun _ h_ => h_)) (fun k_ hk => by omega)) (fun k_ hk => by omega)
theorem mk.eqn (v : Value) (w : World) : (binOp .neq 86 (.iface 92 v) .nilIface).run Tryd.prog w = .ok (.bool true) w := by kernel_rfl
theorem mk.eqn3 (v : Value) (w : World) : (binOp .neq 86 (.iface 93 v) .nilIface).run Tryd.prog w = .ok (.bool true) w := by kernel_rfl
theorem mk.eq0 (w : World) : (binOp .neq 86 .nilIface .nilIface).run Tryd.prog w = .ok (.bool false) w := by kernel_rfl
theorem mk.eqe (v : Value) (w : World) : (binOp .eql 86 (.iface 92 v) .nilIface).run Tryd.prog w = .ok (.bool false) w := by kernel_rfl
theorem mk.eqe3 (v : Value) (w : World) : (binOp .eql 86 (.iface 93 v) .nilIface).run Tryd.prog w = .ok (.bool false) w := by kernel_rfl
theorem mk.eqe0 (w : World) : (binOp .eql 86 .nilIface .nilIface).run Tryd.prog w = .ok (.bool true) w := by kernel_rfl
theorem mk.mt (v : Value) (w : World) : (method 221 92 v "wristband/mac.tag").run Tryd.prog w = .ok (88, v) w := by kernel_rfl
theorem mk.mt3 (v : Value) (w : World) : (method 221 93 v "wristband/mac.tag").run Tryd.prog w = .ok (90, v) w := by kernel_rfl
theorem mk.mk (v : Value) (w : World) : (method 221 92 v "wristband/mac.known").run Tryd.prog w = .ok (87, v) w := by kernel_rfl
theorem mk.mk3 (v : Value) (w : World) : (method 221 93 v "wristband/mac.known").run Tryd.prog w = .ok (89, v) w := by kernel_rfl
/-- An engine's maker: what comes back, and whether there is one. -/
inductive mk.is (kind : Int) (A0 : Option Addr) (c0 : Nat) (l0 : List S84) : Bool → Value → Prop
  | con (h : Aside0 (kind = 1 ∧ l0.length = 0)) : mk.is kind A0 c0 l0 true (.iface 92 (.agg #[.int .i64 kind, .slice A0 l0.length c0]))
  | sym (h : Aside0 (kind = 2 ∧ term_Right.f l0 = some true)) : mk.is kind A0 c0 l0 true (.iface 93 (.agg #[.int .i64 kind, .slice A0 l0.length c0]))
  | no : mk.is kind A0 c0 l0 false .nilIface
theorem mk.any (kind : Int) (A0 : Option Addr) (c0 : Nat) (l0 : List S84) (r : Bool) (w : World) (hr0 : Kd.C k84 w A0 l0.length l0) (hc0 : l0.length ≤ c0) (h : mac_Right.f kind l0 = some r) : ∃ v, mk.is kind A0 c0 l0 r v ∧ Calls Tryd.prog 61 #[.agg #[.int .i64 kind, .slice A0 l0.length c0]] w fun e w' => e = .returned v ∧ Below w.heap.size w w' := by
  unfold mac_Right.f at h
  by_cases h1 : kind = 1
  · rw [if_pos h1] at h
    obtain rfl := Option.some.inj h
    by_cases h2 : l0.length = 0
    · rw [decide_eq_true h2]
      subst h1
      exact ⟨_, .con ⟨⟨rfl, h2⟩⟩, mk.con A0 c0 l0 w h2⟩
    · rw [decide_eq_false h2]
      exact ⟨_, .no, mk.no kind A0 c0 l0 w (fun h => h2 h.2) (by omega)⟩
  · rw [if_neg h1] at h
    by_cases h2 : kind = 2
    · rw [if_pos h2] at h
      subst h2
      cases r with
      | true => exact ⟨_, .sym ⟨⟨rfl, h⟩⟩, mk.sym A0 c0 l0 w hr0 hc0 h⟩
      | false => exact ⟨_, .no, mk.no2 A0 c0 l0 w hr0 hc0 h⟩
    · rw [if_neg h2] at h
      obtain rfl := Option.some.inj h
      exact ⟨_, .no, mk.no kind A0 c0 l0 w (fun h => h1 h.1) h2⟩
set_option maxHeartbeats 3200000 in
theorem mac_Right.calls (a0_0 : Int) (A0_1 : Option Addr) (c0_1 : Nat) (l0_1 : List S84) (r : Bool) (w : World) (hr0_1 : Kd.C k84 w A0_1 l0_1.length l0_1) (hc0_1 : l0_1.length ≤ c0_1) (h : mac_Right.f a0_0 l0_1 = some r) :
    Calls Tryd.prog 42 #[.agg #[.int .i64 a0_0, .slice A0_1 l0_1.length c0_1]] w fun e w' => e = .returned (.bool r) ∧ Below w.heap.size w w' := by
  have HR := Aside0.mk hr0_1; have HC := Aside0.mk hc0_1; have HH := Aside0.mk h
  clear hr0_1 hc0_1 h
  have HB := Aside0.mk (below_alloc (Below.refl w.heap.size w) (.cells #[.int .i64 a0_0, .slice A0_1 l0_1.length c0_1] 62))
  have BB := Aside0.mk (blk_new w (.cells #[.int .i64 a0_0, .slice A0_1 l0_1.length c0_1] 62))
  go_enter Tryd.func42, Tryd.ntmps42
  go_upto_region 1 with fail
  generalize w.alloc (.cells #[.int .i64 a0_0, .slice A0_1 l0_1.length c0_1] 62) = W at BB HB ⊢
  obtain ⟨v, hi, hcall⟩ := mk.any a0_0 A0_1 c0_1 l0_1 r W (Kd.C_below HR.out HB.out) HC.out HH.out
  have HCA := Aside0.mk hcall
  clear hcall
  have a0 := (blk_cell BB.out 0).trans rfl; have a1 := (blk_cell BB.out 1).trans rfl
  have e1 := mk.eqn; have e2 := mk.eqn3; have e3 := mk.eq0
  cases hi
  all_goals
    go_wp2_with (go_at_call 61; refine Calls.mono HCA.out ?_; rintro e w2 ⟨rfl, hb⟩; have HB2 := Aside0.mk (below_step HB.out hb); clear hb)
    go_ret
    exact ⟨rfl, HB2.out⟩

/-! ### mac_Tag: function 41 -/
def mac_Tag.f (k : Nat) (a0_0 : Int) (l0_1 : List S84) (l1 l2 : List Int) : Option (Int × List S84 × List Int × Int) := (mac_Right.f a0_0 l0_1).bind fun r => if r = true then (if a0_0 = 1 then ((hmac_Mac.f k l1 l2).bind fun h => if 8 ≤ h.length then some (1, l0_1, h.take 8, 0) else none) else ((term_Put.f k l0_1 l1 l2).bind fun q => some (2, q.1, q.2, 0))) else some (a0_0, l0_1, [], 1)
theorem mac_Tag.mono : ∀ a0_0 l0_1 l1 l2 k, LeO (mac_Tag.f k a0_0 l0_1 l1 l2) (mac_Tag.f (k + 1) a0_0 l0_1 l1 l2) := by
  intro a0_0 l0_1 l1 l2 k
  unfold mac_Tag.f
  exact LeO.bind (LeO.refl _) (fun _ => LeO.ite (LeO.ite (LeO.bind (hmac_Mac.mono _ _ _) (fun _ => LeO.refl _)) (LeO.bind (term_Put.mono _ _ _ _) (fun _ => LeO.refl _))) (LeO.refl _))
set_option maxHeartbeats 3200000 in
set_option maxRecDepth 100000 in
theorem mac_Tag.calls (k : Nat) (a0_0 : Int) (P0_1_ : Nat → Prop) (A0_1 : Option Addr) (c0_1 : Nat) (l0_1 : List S84) (A1 : Option Addr) (c1 : Nat) (l1 : List Int) (A2 : Option Addr) (c2 : Nat) (l2 : List Int) (r1 : Int) (r2 : List S84) (r3 : List Int) (r4 : Int) (w : World) (hs0_1 : Kd.V k84 84 w w.heap.size (fun k_ => P0_1_ k_) (.slice A0_1 l0_1.length c0_1) l0_1) (hr1 : Kd.C (Kd.int .u8) w A1 l1.length l1) (hc1 : l1.length ≤ c1) (hr2 : Kd.C (Kd.int .u8) w A2 l2.length l2) (hc2 : l2.length ≤ c2) (hL0_ : Kd.C (Kd.int .u32) w (some ⟨0, 0, none⟩) 64 shaK) (hL1_ : Kd.C (Kd.int .u32) w (some ⟨1, 0, none⟩) 8 shaF) (h : mac_Tag.f k a0_0 l0_1 l1 l2 = some (r1, r2, r3, r4)) :
    Calls Tryd.prog 41 #[.agg #[.int .i64 a0_0, .slice A0_1 l0_1.length c0_1], .slice A1 l1.length c1, .slice A2 l2.length c2] w fun e w' => ∃ v1_ v2_ : Value, e = .returned (.tuple #[.agg #[.int .i64 r1, v1_], v2_, .int .i64 r4]) ∧ Kd.V k84 84 w' w.heap.size (fun k_ => (P0_1_ k_ ∨ w.heap.size ≤ k_)) v1_ r2 ∧ Kd.V (Kd.int .u8) 5 w' w.heap.size (fun k_ => (P0_1_ k_ ∨ w.heap.size ≤ k_)) v2_ r3 ∧ Below w.heap.size w w' := by
  have HS0 := Aside0.mk hs0_1; have HR1 := Aside0.mk hr1; have HC1 := Aside0.mk hc1; have HR2 := Aside0.mk hr2; have HC2 := Aside0.mk hc2; have HL0 := Aside0.mk hL0_; have HL1 := Aside0.mk hL1_; have HH := Aside0.mk h
  clear hs0_1 hr1 hc1 hr2 hc2 hL0_ hL1_ h
  have HR := Aside0.mk (Kd.V_reads' HS0.out).2.2; have HC := Aside0.mk (Kd.V_reads' HS0.out).2.1
  obtain ⟨r, hr⟩ : ∃ r, mac_Right.f a0_0 l0_1 = some r := by
    obtain ⟨r, hr, _⟩ := Option.bind_eq_some_iff.1 HH.out
    exact ⟨r, hr⟩
  go_enter Tryd.func41, Tryd.ntmps41
  obtain ⟨bb, br, hb, hs⟩ := mk.two w (.cells #[.int .i64 a0_0, .slice A0_1 l0_1.length c0_1] 62) (.cells #[.int .i64 0, .slice none 0 0] 62)
  go_upto_region 1 with fail
  have BB := Aside0.mk bb; have BR := Aside0.mk br; have HB := Aside0.mk hb; have HS := Aside0.mk hs
  clear bb br hb hs
  generalize (w.alloc (.cells #[.int .i64 a0_0, .slice A0_1 l0_1.length c0_1] 62)).alloc (.cells #[.int .i64 0, .slice none 0 0] 62) = W at BB BR HB HS ⊢
  obtain ⟨v, hi, hcall⟩ := mk.any a0_0 A0_1 c0_1 l0_1 r W (Kd.C_below HR.out HB.out) HC.out hr
  have HCA := Aside0.mk hcall
  have HRR := Aside0.mk hr
  clear hcall hr
  have a0 := (blk_cell BB.out 0).trans rfl; have a1 := (blk_cell BB.out 1).trans rfl
  have e1 := mk.eqe; have e2 := mk.eqe3; have e3 := mk.eqe0; have e4 := mk.mt; have e5 := mk.mt3
  have HT := HH.out
  unfold mac_Tag.f at HT
  rw [HRR.out, Option.bind_some] at HT
  have HTA := Aside0.mk HT
  clear HT HH
  cases hi with
  | con hk =>
    have hk1 := hk.out.1
    clear hk
    subst hk1
    have HT := HTA.out
    rw [if_pos rfl, if_pos rfl] at HT
    obtain ⟨hm, hmm, HT⟩ := Option.bind_eq_some_iff.1 HT
    by_cases h8 : 8 ≤ hm.length
    · rw [if_pos h8] at HT
      simp only [Option.some.injEq, Prod.mk.injEq] at HT
      obtain ⟨rfl, rfl, ht, rfl⟩ := HT
      have HMM := Aside0.mk hmm; have H8 := Aside0.mk h8; have HTT := Aside0.mk ht.symm
      clear hmm h8 ht HTA
      go_upto_region 2 with (go_at_call 61; refine Calls.mono HCA.out ?_; rintro e w2 ⟨rfl, hb⟩; have BB2 := Aside0.mk (blk_below BB.out hb); have BR2 := Aside0.mk (blk_below BR.out hb); have HB2 := Aside0.mk (below_step HB.out hb); have HZ := Aside0.mk hb.size; clear hb)
      clear a0 a1
      go_upto_region 5 with (go_at_call 88; refine Calls.mono (mk.ct k _ _ _ _ _ l1 _ _ l2 hm r3 _ (Kd.C_below HR1.out HB2.out) HC1.out (Kd.C_below HR2.out HB2.out) HC2.out (Kd.C_below HL0.out HB2.out) (Kd.C_below HL1.out HB2.out) HMM.out H8.out HTT.out) ?_; rintro e w3 ⟨v, rfl, h0, hb⟩; obtain ⟨Ab, cb, rfl⟩ := Kd.V_slice h0; have HV := Aside0.mk (Kd.V_mono (ok' := fun k_ => w.heap.size + 2 ≤ k_) h0 (fun k_ hk => Nat.le_trans (Nat.le_trans (Nat.le_of_eq HS.out.symm) HZ.out) hk)); have BR3 := Aside0.mk (blk_below BR2.out hb); have HB3 := Aside0.mk (below_step HB2.out hb); clear h0 hb)
      have B4 := Aside0.mk (blk_new w3 (.cells #[.int .i64 1, .slice A0_1 l0_1.length c0_1] 62))
      have BR4 := Aside0.mk (blk_alloc BR3.out (.cells #[.int .i64 1, .slice A0_1 l0_1.length c0_1] 62))
      have HB4 := Aside0.mk (below_alloc HB3.out (.cells #[.int .i64 1, .slice A0_1 l0_1.length c0_1] 62))
      have HV4 := Aside0.mk (Kd.V_alloc HV.out (.cells #[.int .i64 1, .slice A0_1 l0_1.length c0_1] 62))
      generalize w3.alloc (.cells #[.int .i64 1, .slice A0_1 l0_1.length c0_1] 62) = W4 at B4 BR4 HB4 HV4 ⊢
      generalize w3.heap.size = g4 at B4 ⊢
      clear HV BR3 HB3 BB2 BR2 HB2
      have a0 := (blk_cell B4.out 0).trans rfl; have a1 := (blk_cell B4.out 1).trans rfl
      have rr0 := (blk_cell BR4.out 0).trans rfl; have rr1 := (blk_cell BR4.out 1).trans rfl
      have f0 := blk_frozen BR4.out 0; have f1 := blk_frozen BR4.out 1
      go_wp2
      refine bodyPost_ret (results_ctt rfl _ _ (w.heap.size + 1) 62 _ (0, 0) _ rfl (mk.set2 BR4.out) Tryd.underlying62 rfl (by kernel_rfl)) rfl ?_
      refine ⟨_, _, rfl, ?_, ?_, below_set (below_set HB4.out (by omega)) (by omega)⟩
      · exact Kd.V_mono (mk.far2 (g := w.heap.size + 1) (n := w.heap.size) (Kd.V_map (Kd.V_below (Kd.V_bound HS0.out) HB4.out) (fun _ h_ => h_)) (fun k_ hk => by omega)) (fun k_ hk => .inl hk.1)
      · exact Kd.V_mono (mk.far2 (g := w.heap.size + 1) (n := w.heap.size) (Kd.V_map HV4.out (fun _ h_ => h_)) (fun k_ hk => by omega)) (fun k_ hk => .inr (by omega))
    · rw [if_neg h8] at HT; cases HT
  | sym hk =>
    have hk1 := hk.out.1
    clear hk
    subst hk1
    have HT := HTA.out
    rw [if_pos rfl, if_neg (by decide)] at HT
    obtain ⟨q, hq, HT⟩ := Option.bind_eq_some_iff.1 HT
    simp only [Option.some.injEq, Prod.mk.injEq] at HT
    obtain ⟨rfl, hq1, hq2, rfl⟩ := HT
    have HQ := Aside0.mk (show term_Put.f k l0_1 l1 l2 = some (r2, r3) by rw [hq, ← hq1, ← hq2])
    clear hq hq1 hq2 HTA
    go_upto_region 2 with (go_at_call 61; refine Calls.mono HCA.out ?_; rintro e w2 ⟨rfl, hb⟩; have BB2 := Aside0.mk (blk_below BB.out hb); have BR2 := Aside0.mk (blk_below BR.out hb); have HB2 := Aside0.mk (below_step HB.out hb); have HZ := Aside0.mk hb.size; clear hb)
    clear a0 a1
    go_upto_region 5 with (go_at_call 90; refine Calls.mono (mk.st k (fun k_ => P0_1_ k_ ∧ k_ < w.heap.size) _ _ l0_1 _ _ l1 _ _ l2 r2 r3 w.heap.size _ (Kd.V_below (Kd.V_bound HS0.out) HB2.out) (Kd.C_below HR1.out HB2.out) HC1.out (Kd.C_below HR2.out HB2.out) HC2.out HQ.out) ?_; rintro e w3 ⟨v0, v1, rfl, h0, h1, hb⟩; obtain ⟨Aq, cq, rfl⟩ := Kd.V_slice h0; obtain ⟨Ab, cb, rfl⟩ := Kd.V_slice h1; have HU := Aside0.mk (Kd.V_mono (ok' := fun k_ => (P0_1_ k_ ∧ k_ < w.heap.size) ∨ w.heap.size + 2 ≤ k_) h0 (fun k_ hk => hk.imp_right (fun hk => Nat.le_trans (Nat.le_trans (Nat.le_of_eq HS.out.symm) HZ.out) hk))); have HV := Aside0.mk (Kd.V_mono (ok' := fun k_ => w.heap.size + 2 ≤ k_) h1 (fun k_ hk => Nat.le_trans (Nat.le_trans (Nat.le_of_eq HS.out.symm) HZ.out) hk)); have BR3 := Aside0.mk (blk_below BR2.out hb); have HB3 := Aside0.mk (below_step HB2.out hb); clear h0 h1 hb)
    have B4 := Aside0.mk (blk_new w3 (.cells #[.int .i64 2, .slice Aq r2.length cq] 62))
    have BR4 := Aside0.mk (blk_alloc BR3.out (.cells #[.int .i64 2, .slice Aq r2.length cq] 62))
    have HB4 := Aside0.mk (below_alloc HB3.out (.cells #[.int .i64 2, .slice Aq r2.length cq] 62))
    have HV4 := Aside0.mk (Kd.V_alloc HV.out (.cells #[.int .i64 2, .slice Aq r2.length cq] 62))
    have HU4 := Aside0.mk (Kd.V_alloc HU.out (.cells #[.int .i64 2, .slice Aq r2.length cq] 62))
    generalize w3.alloc (.cells #[.int .i64 2, .slice Aq r2.length cq] 62) = W4 at B4 BR4 HB4 HV4 HU4 ⊢
    generalize w3.heap.size = g4 at B4 ⊢
    clear HV HU BR3 HB3 BB2 BR2 HB2
    have a0 := (blk_cell B4.out 0).trans rfl; have a1 := (blk_cell B4.out 1).trans rfl
    have rr0 := (blk_cell BR4.out 0).trans rfl; have rr1 := (blk_cell BR4.out 1).trans rfl
    have f0 := blk_frozen BR4.out 0; have f1 := blk_frozen BR4.out 1
    go_wp2
    refine bodyPost_ret (results_ctt rfl _ _ (w.heap.size + 1) 62 _ (0, 0) _ rfl (mk.set2 BR4.out) Tryd.underlying62 rfl (by kernel_rfl)) rfl ?_
    refine ⟨_, _, rfl, ?_, ?_, below_set (below_set HB4.out (by omega)) (by omega)⟩
    · exact Kd.V_mono (mk.far2 (g := w.heap.size + 1) (n := w.heap.size) (Kd.V_map HU4.out (fun _ h_ => h_)) (fun k_ hk => by omega)) (fun k_ hk => by rcases hk with hk | hk; exact .inl hk.1; exact .inr (by omega))
    · exact Kd.V_mono (mk.far2 (g := w.heap.size + 1) (n := w.heap.size) (Kd.V_map HV4.out (fun _ h_ => h_)) (fun k_ hk => by omega)) (fun k_ hk => .inr (by omega))
  | no =>
    have HT := HTA.out
    rw [if_neg (by decide)] at HT
    simp only [Option.some.injEq, Prod.mk.injEq] at HT
    obtain ⟨rfl, rfl, rfl, rfl⟩ := HT
    clear HTA
    go_upto_region 2 with (go_at_call 61; refine Calls.mono HCA.out ?_; rintro e w2 ⟨rfl, hb⟩; have BB2 := Aside0.mk (blk_below BB.out hb); have BR2 := Aside0.mk (blk_below BR.out hb); have HB2 := Aside0.mk (below_step HB.out hb); clear hb)
    clear a0 a1
    have a0 := (blk_cell BB2.out 0).trans rfl; have a1 := (blk_cell BB2.out 1).trans rfl
    have rr0 := (blk_cell BR2.out 0).trans rfl; have rr1 := (blk_cell BR2.out 1).trans rfl
    have f0 := blk_frozen BR2.out 0; have f1 := blk_frozen BR2.out 1
    go_wp2
    refine bodyPost_ret (results_ctt rfl _ _ (w.heap.size + 1) 62 _ (0, 0) _ rfl (mk.set2 BR2.out) Tryd.underlying62 rfl (by kernel_rfl)) rfl ?_
    refine ⟨_, _, rfl, ?_, Kd.V_nil _ _ _ _ _, below_set (below_set HB2.out (by omega)) (by omega)⟩
    exact Kd.V_mono (mk.far2 (g := w.heap.size + 1) (n := w.heap.size) (Kd.V_map (Kd.V_below (Kd.V_bound HS0.out) HB2.out) (fun _ h_ => h_)) (fun k_ hk => by omega)) (fun k_ hk => .inl hk.1)

/-! ### mac_Fits: function 43 -/
def mac_Fits.f (k : Nat) (a0_0 : Int) (l0_1 : List S84) (l1 l2 l3 : List Int) : Option Bool := (mac_Right.f a0_0 l0_1).bind fun r => if r = true then (if a0_0 = 1 then ((hmac_Mac.f k l1 l2).bind fun h => if 8 ≤ h.length then trunc_Same.f k (h.take 8) l3 else none) else ((term_Place.f l0_1 l1 l2).bind fun p => if 0 ≤ p then ((term_Put.f k l0_1 l1 l2).bind fun q => trunc_Same.f k q.2 l3) else some false)) else some false
theorem mac_Fits.mono : ∀ a0_0 l0_1 l1 l2 l3 k, LeO (mac_Fits.f k a0_0 l0_1 l1 l2 l3) (mac_Fits.f (k + 1) a0_0 l0_1 l1 l2 l3) := by
  intro a0_0 l0_1 l1 l2 l3 k
  unfold mac_Fits.f
  exact LeO.bind (LeO.refl _) (fun _ => LeO.ite (LeO.ite (LeO.bind (hmac_Mac.mono _ _ _) (fun _ => LeO.ite (trunc_Same.mono _ _ _) (LeO.refl _))) (LeO.bind (LeO.refl _) (fun _ => LeO.ite (LeO.bind (term_Put.mono _ _ _ _) (fun _ => trunc_Same.mono _ _ _)) (LeO.refl _)))) (LeO.refl _))
set_option maxHeartbeats 3200000 in
set_option maxRecDepth 100000 in
theorem mac_Fits.calls (k : Nat) (a0_0 : Int) (A0_1 : Option Addr) (c0_1 : Nat) (l0_1 : List S84) (A1 : Option Addr) (c1 : Nat) (l1 : List Int) (A2 : Option Addr) (c2 : Nat) (l2 : List Int) (A3 : Option Addr) (c3 : Nat) (l3 : List Int) (r : Bool) (w : World) (hr0_1 : Kd.C k84 w A0_1 l0_1.length l0_1) (hc0_1 : l0_1.length ≤ c0_1) (hr1 : Kd.C (Kd.int .u8) w A1 l1.length l1) (hc1 : l1.length ≤ c1) (hr2 : Kd.C (Kd.int .u8) w A2 l2.length l2) (hc2 : l2.length ≤ c2) (hr3 : Kd.C (Kd.int .u8) w A3 l3.length l3) (hc3 : l3.length ≤ c3) (hL0_ : Kd.C (Kd.int .u32) w (some ⟨0, 0, none⟩) 64 shaK) (hL1_ : Kd.C (Kd.int .u32) w (some ⟨1, 0, none⟩) 8 shaF) (h : mac_Fits.f k a0_0 l0_1 l1 l2 l3 = some r) :
    Calls Tryd.prog 43 #[.agg #[.int .i64 a0_0, .slice A0_1 l0_1.length c0_1], .slice A1 l1.length c1, .slice A2 l2.length c2, .slice A3 l3.length c3] w fun e w' => e = .returned (.bool r) ∧ Below w.heap.size w w' := by
  have HR := Aside0.mk hr0_1; have HC := Aside0.mk hc0_1; have HR1 := Aside0.mk hr1; have HC1 := Aside0.mk hc1; have HR2 := Aside0.mk hr2; have HC2 := Aside0.mk hc2; have HR3 := Aside0.mk hr3; have HC3 := Aside0.mk hc3; have HL0 := Aside0.mk hL0_; have HL1 := Aside0.mk hL1_; have HH := Aside0.mk h
  clear hr0_1 hc0_1 hr1 hc1 hr2 hc2 hr3 hc3 hL0_ hL1_ h
  obtain ⟨r0, hr⟩ : ∃ r, mac_Right.f a0_0 l0_1 = some r := by
    obtain ⟨r, hr, _⟩ := Option.bind_eq_some_iff.1 HH.out
    exact ⟨r, hr⟩
  have HB := Aside0.mk (below_alloc (Below.refl w.heap.size w) (.cells #[.int .i64 a0_0, .slice A0_1 l0_1.length c0_1] 62))
  have BB := Aside0.mk (blk_new w (.cells #[.int .i64 a0_0, .slice A0_1 l0_1.length c0_1] 62))
  go_enter Tryd.func43, Tryd.ntmps43
  go_upto_region 1 with fail
  generalize w.alloc (.cells #[.int .i64 a0_0, .slice A0_1 l0_1.length c0_1] 62) = W at BB HB ⊢
  obtain ⟨v, hi, hcall⟩ := mk.any a0_0 A0_1 c0_1 l0_1 r0 W (Kd.C_below HR.out HB.out) HC.out hr
  have HCA := Aside0.mk hcall
  have HRR := Aside0.mk hr
  clear hcall hr
  have a0 := (blk_cell BB.out 0).trans rfl; have a1 := (blk_cell BB.out 1).trans rfl
  have e1 := mk.eqe; have e2 := mk.eqe3; have e3 := mk.eqe0; have e4 := mk.mt; have e5 := mk.mt3; have e6 := mk.mk; have e7 := mk.mk3
  have HT := HH.out
  unfold mac_Fits.f at HT
  rw [HRR.out, Option.bind_some] at HT
  have HTA := Aside0.mk HT
  clear HT HH
  cases hi with
  | con hk =>
    have hk1 := hk.out.1
    clear hk
    subst hk1
    have HT := HTA.out
    rw [if_pos rfl, if_pos rfl] at HT
    obtain ⟨hm, hmm, HT⟩ := Option.bind_eq_some_iff.1 HT
    by_cases h8 : 8 ≤ hm.length
    · rw [if_pos h8] at HT
      obtain ⟨t, ht⟩ : ∃ t, t = hm.take 8 := ⟨_, rfl⟩
      rw [← ht] at HT
      have HMM := Aside0.mk hmm; have H8 := Aside0.mk h8; have HTT := Aside0.mk ht; have HSM := Aside0.mk HT
      clear hmm h8 ht HTA HT
      go_upto_region 2 with (go_at_call 61; refine Calls.mono HCA.out ?_; rintro e w2 ⟨rfl, hb⟩; have HB2 := Aside0.mk (below_step HB.out hb); clear hb)
      clear a0 a1 HB BB
      go_upto_region 5 with (first
        | (go_at_call 87; refine Calls.mono (mk.ck _ _ _ _ _ _ _) ?_; rintro e wk ⟨rfl, hb⟩; have HB9 := Aside0.mk (below_step HB2.out hb); clear HB2 hb; have HB2 := HB9; clear HB9)
        | (go_at_call 88; refine Calls.mono (mk.ct k _ _ _ _ _ l1 _ _ l2 hm t _ (Kd.C_below HR1.out HB2.out) HC1.out (Kd.C_below HR2.out HB2.out) HC2.out (Kd.C_below HL0.out HB2.out) (Kd.C_below HL1.out HB2.out) HMM.out H8.out HTT.out) ?_; rintro e w3 ⟨v, rfl, h0, hb⟩; obtain ⟨Ab, cb, rfl⟩ := Kd.V_slice h0; have HV := Aside0.mk (Kd.V_reads' h0); have HB3 := Aside0.mk (below_step HB2.out hb); clear h0 hb))
      have HB4 := Aside0.mk (below_alloc HB3.out (.cells #[.int .i64 1, .slice A0_1 l0_1.length c0_1] 62))
      have HV4 := Aside0.mk (Kd.C_alloc HV.out.2.2 (.cells #[.int .i64 1, .slice A0_1 l0_1.length c0_1] 62))
      generalize w3.alloc (.cells #[.int .i64 1, .slice A0_1 l0_1.length c0_1] 62) = W4 at HB4 HV4 ⊢
      go_wp2_with (go_at_call 62; refine Calls.mono (trunc_Same.calls k _ _ t _ _ l3 r _ HV4.out HV.out.2.1 (Kd.C_below HR3.out HB4.out) HC3.out HSM.out) ?_; rintro e w5 ⟨rfl, hb⟩; have HB5 := Aside0.mk (below_step HB4.out hb); clear hb)
      go_ret
      exact ⟨rfl, HB5.out⟩
    · rw [if_neg h8] at HT; cases HT
  | sym hk =>
    have hk1 := hk.out.1
    clear hk
    subst hk1
    have HT := HTA.out
    rw [if_pos rfl, if_neg (by decide)] at HT
    obtain ⟨p, hp, HT⟩ := Option.bind_eq_some_iff.1 HT
    have HP := Aside0.mk hp
    clear hp
    by_cases h0 : 0 ≤ p
    · rw [if_pos h0] at HT
      obtain ⟨q, hq, HT⟩ := Option.bind_eq_some_iff.1 HT
      obtain ⟨q1, q2⟩ := q
      have HQ := Aside0.mk hq; have HSM := Aside0.mk (show trunc_Same.f k q2 l3 = some r from HT)
      have p1 : decide (0 ≤ p) = true := decide_eq_true h0
      clear hq HTA HT h0
      go_upto_region 2 with (go_at_call 61; refine Calls.mono HCA.out ?_; rintro e w2 ⟨rfl, hb⟩; have HB2 := Aside0.mk (below_step HB.out hb); clear hb)
      clear a0 a1 HB BB
      go_upto_region 5 with (first
        | (go_at_call 89; refine Calls.mono (mk.sk _ _ l0_1 _ _ l1 _ _ l2 p _ (Kd.C_below HR.out HB2.out) HC.out (Kd.C_below HR1.out HB2.out) HC1.out (Kd.C_below HR2.out HB2.out) HC2.out HP.out) ?_; rintro e wk ⟨rfl, hb⟩; have HB9 := Aside0.mk (below_step HB2.out hb); clear HB2 hb; have HB2 := HB9; clear HB9)
        | (go_at_call 90; refine Calls.mono (mk.st k (fun k_ => k_ < w.heap.size) _ _ l0_1 _ _ l1 _ _ l2 q1 q2 w.heap.size _ (Kd.V_below (Kd.V_mk HC.out (Kd.C_F k84_heap HR.out)) HB2.out) (Kd.C_below HR1.out HB2.out) HC1.out (Kd.C_below HR2.out HB2.out) HC2.out HQ.out) ?_; rintro e w3 ⟨v0, v1, rfl, h0, h1, hb⟩; obtain ⟨Aq, cq, rfl⟩ := Kd.V_slice h0; obtain ⟨Ab, cb, rfl⟩ := Kd.V_slice h1; have HV := Aside0.mk (Kd.V_reads' h1); have HB3 := Aside0.mk (below_step HB2.out hb); clear h0 h1 hb))
      have HB4 := Aside0.mk (below_alloc HB3.out (.cells #[.int .i64 2, .slice Aq q1.length cq] 62))
      have HV4 := Aside0.mk (Kd.C_alloc HV.out.2.2 (.cells #[.int .i64 2, .slice Aq q1.length cq] 62))
      generalize w3.alloc (.cells #[.int .i64 2, .slice Aq q1.length cq] 62) = W4 at HB4 HV4 ⊢
      go_wp2_with (go_at_call 62; refine Calls.mono (trunc_Same.calls k _ _ q2 _ _ l3 r _ HV4.out HV.out.2.1 (Kd.C_below HR3.out HB4.out) HC3.out HSM.out) ?_; rintro e w5 ⟨rfl, hb⟩; have HB5 := Aside0.mk (below_step HB4.out hb); clear hb)
      go_ret
      exact ⟨rfl, HB5.out⟩
    · rw [if_neg h0] at HT
      obtain rfl := Option.some.inj HT
      have p1 : decide (0 ≤ p) = false := decide_eq_false h0
      clear HTA HT h0
      go_upto_region 2 with (go_at_call 61; refine Calls.mono HCA.out ?_; rintro e w2 ⟨rfl, hb⟩; have HB2 := Aside0.mk (below_step HB.out hb); clear hb)
      clear a0 a1 HB BB
      go_wp2_with (go_at_call 89; refine Calls.mono (mk.sk _ _ l0_1 _ _ l1 _ _ l2 p _ (Kd.C_below HR.out HB2.out) HC.out (Kd.C_below HR1.out HB2.out) HC1.out (Kd.C_below HR2.out HB2.out) HC2.out HP.out) ?_; rintro e wk ⟨rfl, hb⟩; have HB9 := Aside0.mk (below_step HB2.out hb); clear hb)
      go_ret
      exact ⟨rfl, HB9.out⟩
  | no =>
    have HT := HTA.out
    rw [if_neg (by decide)] at HT
    obtain rfl := Option.some.inj HT
    clear HTA HT
    go_wp2_with (go_at_call 61; refine Calls.mono HCA.out ?_; rintro e w2 ⟨rfl, hb⟩; have HB2 := Aside0.mk (below_step HB.out hb); clear hb)
    go_ret
    exact ⟨rfl, HB2.out⟩

/-! ### mac_New: function 60 -/
def mac_New.f (a0 : Int) : Option (Int × (List (S84)) × Int) := (mac_Right.f a0 ([] : List (S84))).bind fun t208 => (if t208 = true then (some (a0, ([] : List (S84)), 0)) else (some (0, ([] : List (S84)), 1)))
set_option maxHeartbeats 8000000 in
set_option maxRecDepth 100000 in
theorem mac_New.calls (a0 : Int) (r1 : Int) (r2 : List (S84)) (r3 : Int) (w : World) (h : mac_New.f a0 = some (r1, r2, r3)) :
   Calls Tryd.prog 60 #[.int .i64 a0] w fun e w' => ∃ v1_ : Value, e = .returned (.tuple #[.agg #[.int .i64 r1, v1_], .int .i64 r3]) ∧ Kd.S k84 84 w' w.heap.size (fun _ => True) v1_ r2 ∧ Below w.heap.size w w' := by
  have hu62 := Tryd.underlying62
  have HB := Aside0.mk (Below.refl w.heap.size w); have H : ((mac_Right.f a0 ([] : List (S84))).bind fun t208 => (if t208 = true then (some (a0, ([] : List (S84)), 0)) else (some (0, ([] : List (S84)), 1)))) = some (r1, r2, r3) := h
  clear h; replace H := Option.bind_eq_some_iff.mp H
  obtain ⟨t208, A20, H⟩ := H
  replace H : (if t208 = true then (some (a0, ([] : List (S84)), 0)) else (some (0, ([] : List (S84)), 1))) = some (r1, r2, r3) := H
  have A2 := Aside0.mk A20; clear A20; by_cases c3 : t208 = true
  ·subst c3
   have H1 : (some (a0, ([] : List (S84)), 0)) = some (r1, r2, r3) := by rw [if_pos rfl] at H; exact H
   clear H; have H := H1; clear H1; simp only [Option.some.injEq, Prod.mk.injEq] at H
   obtain ⟨rfl, rfl, rfl⟩ := H
   go_enter Tryd.func60, Tryd.ntmps60
   go_wp2_with (first | ((with_reducible refine gate_dst (N := 2) rfl ?_); refine box_event ?hg (N := 2) ?hd (cs := #[.int .i64 0, .slice none 0 0]) (t := 62) ?hr ?_; (case hd => rfl); (case hg => rfl); (case hr => first | (go_simp; done) | (go_simp; rfl)); intro gb206 hg w4 hbox hb; have n0_ := Aside0.mk (below_step (by repeat (first | (with_reducible first | exact HB.out | apply bA | apply bN | apply bD) | exact HB.out)) hb); have n1_ := Aside0.mk (hbox); have n2_ := Aside0.mk ((by rw [hg]; exact (below_size (by repeat (first | (with_reducible first | exact HB.out | apply bA | apply bN | apply bD) | exact HB.out))) : w.heap.size ≤ gb206)); have n3_ := Aside0.mk ((by rw [hg]; exact (below_size (by repeat (first | (with_reducible first | exact HB.out | apply bA | apply bN | apply bD) | exact HB.out))) : w.heap.size ≤ gb206)); clear HB; have HB := n0_; have BK206 := n1_; have GW206 := n2_; have GE206 := n3_; clear n0_ n1_ n2_ n3_; clear hb hbox hg) | ((with_reducible refine gate_dst (N := 4) rfl ?_); refine box_event ?hg (N := 4) ?hd (cs := #[.int .i64 0, .slice none 0 0]) (t := 62) ?hr ?_; (case hd => rfl); (case hg => rfl); (case hr => first | (go_simp; done) | (go_simp; rfl)); intro gb207 hg w5 hbox hb; have n0_ := Aside0.mk (blk_below (g := gb206) (o := .cells #[.int .i64 0, .slice none 0 0] 62 (0, 0)) (by (with_reducible repeat (first | refine blk_drewN ?_ _ | refine blk_drew ?_ | refine blk_alloc ?_ _)); exact BK206.out) hb); have n1_ := Aside0.mk (below_step (by repeat (first | (with_reducible first | exact HB.out | apply bA | apply bN | apply bD | refine below_set ?_ GE206.out) | exact HB.out)) hb); have n2_ := Aside0.mk (hbox); have n3_ := Aside0.mk ((by rw [hg]; exact (below_size (by repeat (first | (with_reducible first | exact HB.out | apply bA | apply bN | apply bD | refine below_set ?_ GE206.out) | exact HB.out))) : w.heap.size ≤ gb207)); have n4_ := Aside0.mk ((by rw [hg]; exact (below_size (by repeat (first | (with_reducible first | exact HB.out | apply bA | apply bN | apply bD | refine below_set ?_ GE206.out) | exact HB.out))) : w.heap.size ≤ gb207)); have n5_ := Aside0.mk ((by rw [hg]; exact Nat.ne_of_lt (blk_lt (g := gb206) (o := .cells #[.int .i64 0, .slice none 0 0] 62 (0, 0)) (by (with_reducible repeat (first | refine blk_drewN ?_ _ | refine blk_drew ?_ | refine blk_alloc ?_ _)); exact BK206.out)) : gb206 ≠ gb207)); have n6_ := Aside0.mk ((by rw [hg]; exact Nat.ne_of_gt (blk_lt (g := gb206) (o := .cells #[.int .i64 0, .slice none 0 0] 62 (0, 0)) (by (with_reducible repeat (first | refine blk_drewN ?_ _ | refine blk_drew ?_ | refine blk_alloc ?_ _)); exact BK206.out)) : gb207 ≠ gb206)); clear BK206; clear HB; have BK206 := n0_; have HB := n1_; have BK207 := n2_; have GW207 := n3_; have GE207 := n4_; have NB206_207 := n5_; have NB207_206 := n6_; clear n0_ n1_ n2_ n3_ n4_ n5_ n6_; clear hb hbox hg; have hnb6 := NB207_206.out; have hnc6 := NB206_207.out; have hcz7_0 : w5.cell? ⟨gb207, 0, none⟩ = some (.int .i64 0) := (blk_cell BK207.out 0).trans rfl; have hcz7_1 : w5.cell? ⟨gb207, 1, none⟩ = some (.slice none 0 0) := (blk_cell BK207.out 1).trans rfl; have hfz7_0 := blk_frozen BK207.out 0; have hfz7_1 := blk_frozen BK207.out 1) | ((with_reducible refine gate_callee (f := 42) rfl ?_); refine goesL_ (some 8) rfl rfl Tryd.func42 (by kernel_rfl) rfl #[.agg #[.int .i64 a0, .slice none 0 0]] rfl (by (try simp only [mT, mC, mN]); first | done | rfl | (simp only [List.length_drop, List.length_take]; rfl)) ?_; (refine (mac_Right.calls a0 _ _ ([] : List (S84)) true _ ?side1 ?side2 A2.out).mono ?_); (case side1 => exact Kd.C_nil _ _); (case side2 => exact Nat.le_refl _); rintro e w8 ⟨rfl, hb⟩; refine ⟨_, rfl, ?_⟩; have n0_ := Aside0.mk (blk_below (g := gb206) (o := .cells #[.int .i64 0, .slice none 0 0] 62 (0, 0)) (by (with_reducible repeat (first | refine blk_drewN ?_ _ | refine blk_drew ?_ | refine blk_alloc ?_ _)); refine blk_far ?_ NB206_207.out _; (with_reducible repeat (first | refine blk_drewN ?_ _ | refine blk_drew ?_ | refine blk_alloc ?_ _)); refine blk_far ?_ NB206_207.out _; (with_reducible repeat (first | refine blk_drewN ?_ _ | refine blk_drew ?_ | refine blk_alloc ?_ _)); exact BK206.out) hb); have n1_ := Aside0.mk (blk_below (g := gb207) (o := .cells #[.int .i64 a0, .slice none 0 0] 62 (0, 0)) (by (with_reducible repeat (first | refine blk_drewN ?_ _ | refine blk_drew ?_ | refine blk_alloc ?_ _)); refine blk_put (cs := #[.int .i64 a0, .slice none 0 0]) ?_ 1 _ rfl; (with_reducible repeat (first | refine blk_drewN ?_ _ | refine blk_drew ?_ | refine blk_alloc ?_ _)); refine blk_put (cs := #[.int .i64 0, .slice none 0 0]) ?_ 0 _ rfl; (with_reducible repeat (first | refine blk_drewN ?_ _ | refine blk_drew ?_ | refine blk_alloc ?_ _)); exact BK207.out) hb); have n2_ := Aside0.mk (below_step (by repeat (first | (with_reducible first | exact HB.out | apply bA | apply bN | apply bD | refine below_set ?_ GE206.out | refine below_set ?_ GE207.out) | exact HB.out)) hb); clear BK206; clear BK207; clear HB; have BK206 := n0_; have BK207 := n1_; have HB := n2_; clear n0_ n1_ n2_; (try clear hb); (try clear hb2); (try clear hk); (try clear hi); have hcz9_0 : w8.cell? ⟨gb207, 0, none⟩ = some (.int .i64 a0) := (blk_cell BK207.out 0).trans rfl; have hcz9_1 : w8.cell? ⟨gb207, 1, none⟩ = some (.slice none 0 0) := (blk_cell BK207.out 1).trans rfl; have hfz9_0 := blk_frozen BK207.out 0; have hfz9_1 := blk_frozen BK207.out 1; have hcz10_0 : w8.cell? ⟨gb206, 0, none⟩ = some (.int .i64 0) := (blk_cell BK206.out 0).trans rfl; have hcz10_1 : w8.cell? ⟨gb206, 1, none⟩ = some (.slice none 0 0) := (blk_cell BK206.out 1).trans rfl; have hfz10_0 := blk_frozen BK206.out 0; have hfz10_1 := blk_frozen BK206.out 1))
   refine bodyPost_ret (results_ct rfl _ _ gb206 62 #[.int .i64 a0, .slice none 0 0] (0, 0) _ rfl (by (with_reducible repeat (first | refine blk_drewN ?_ _ | refine blk_drew ?_ | refine blk_alloc ?_ _)); refine blk_put (cs := #[.int .i64 a0, .slice none 0 0]) ?_ 1 _ rfl; (with_reducible repeat (first | refine blk_drewN ?_ _ | refine blk_drew ?_ | refine blk_alloc ?_ _)); refine blk_put (cs := #[.int .i64 0, .slice none 0 0]) ?_ 0 _ rfl; (with_reducible repeat (first | refine blk_drewN ?_ _ | refine blk_drew ?_ | refine blk_alloc ?_ _)); exact BK206.out) Tryd.underlying62 rfl (by kernel_rfl)) rfl ?_
   exact ⟨_, by first | rfl | (simp [errW_none, errW_some] <;> rfl) | (simp [*, errW_none, errW_some] <;> rfl), by first | exact Kd.S_nil _ _ _ _ _ | exact Kd.N_nil _ _ _ _ _ | exact Kd.V_nil _ _ _ _ _ | exact Kd.Q_nil _ _ _ _ _ | exact Kd.R_nil _ _ _ _ _, by repeat (first | (with_reducible first | exact HB.out | apply bA | apply bN | apply bD | refine below_set ?_ GE206.out | refine below_set ?_ GE207.out) | exact HB.out)⟩
  ·replace c3 := Bool.eq_false_iff.mpr c3
   subst c3; have H1 : (some (0, ([] : List (S84)), 1)) = some (r1, r2, r3) := by rw [if_neg (show ¬ (false = true) by decide)] at H; exact H
   clear H; have H := H1; clear H1; simp only [Option.some.injEq, Prod.mk.injEq] at H
   obtain ⟨rfl, rfl, rfl⟩ := H
   go_enter Tryd.func60, Tryd.ntmps60
   go_wp2_with (first | ((with_reducible refine gate_dst (N := 2) rfl ?_); refine box_event ?hg (N := 2) ?hd (cs := #[.int .i64 0, .slice none 0 0]) (t := 62) ?hr ?_; (case hd => rfl); (case hg => rfl); (case hr => first | (go_simp; done) | (go_simp; rfl)); intro gb206 hg w11 hbox hb; have n0_ := Aside0.mk (below_step (by repeat (first | (with_reducible first | exact HB.out | apply bA | apply bN | apply bD) | exact HB.out)) hb); have n1_ := Aside0.mk (hbox); have n2_ := Aside0.mk ((by rw [hg]; exact (below_size (by repeat (first | (with_reducible first | exact HB.out | apply bA | apply bN | apply bD) | exact HB.out))) : w.heap.size ≤ gb206)); have n3_ := Aside0.mk ((by rw [hg]; exact (below_size (by repeat (first | (with_reducible first | exact HB.out | apply bA | apply bN | apply bD) | exact HB.out))) : w.heap.size ≤ gb206)); clear HB; have HB := n0_; have BK206 := n1_; have GW206 := n2_; have GE206 := n3_; clear n0_ n1_ n2_ n3_; clear hb hbox hg) | ((with_reducible refine gate_dst (N := 4) rfl ?_); refine box_event ?hg (N := 4) ?hd (cs := #[.int .i64 0, .slice none 0 0]) (t := 62) ?hr ?_; (case hd => rfl); (case hg => rfl); (case hr => first | (go_simp; done) | (go_simp; rfl)); intro gb207 hg w12 hbox hb; have n0_ := Aside0.mk (blk_below (g := gb206) (o := .cells #[.int .i64 0, .slice none 0 0] 62 (0, 0)) (by (with_reducible repeat (first | refine blk_drewN ?_ _ | refine blk_drew ?_ | refine blk_alloc ?_ _)); exact BK206.out) hb); have n1_ := Aside0.mk (below_step (by repeat (first | (with_reducible first | exact HB.out | apply bA | apply bN | apply bD | refine below_set ?_ GE206.out) | exact HB.out)) hb); have n2_ := Aside0.mk (hbox); have n3_ := Aside0.mk ((by rw [hg]; exact (below_size (by repeat (first | (with_reducible first | exact HB.out | apply bA | apply bN | apply bD | refine below_set ?_ GE206.out) | exact HB.out))) : w.heap.size ≤ gb207)); have n4_ := Aside0.mk ((by rw [hg]; exact (below_size (by repeat (first | (with_reducible first | exact HB.out | apply bA | apply bN | apply bD | refine below_set ?_ GE206.out) | exact HB.out))) : w.heap.size ≤ gb207)); have n5_ := Aside0.mk ((by rw [hg]; exact Nat.ne_of_lt (blk_lt (g := gb206) (o := .cells #[.int .i64 0, .slice none 0 0] 62 (0, 0)) (by (with_reducible repeat (first | refine blk_drewN ?_ _ | refine blk_drew ?_ | refine blk_alloc ?_ _)); exact BK206.out)) : gb206 ≠ gb207)); have n6_ := Aside0.mk ((by rw [hg]; exact Nat.ne_of_gt (blk_lt (g := gb206) (o := .cells #[.int .i64 0, .slice none 0 0] 62 (0, 0)) (by (with_reducible repeat (first | refine blk_drewN ?_ _ | refine blk_drew ?_ | refine blk_alloc ?_ _)); exact BK206.out)) : gb207 ≠ gb206)); clear BK206; clear HB; have BK206 := n0_; have HB := n1_; have BK207 := n2_; have GW207 := n3_; have GE207 := n4_; have NB206_207 := n5_; have NB207_206 := n6_; clear n0_ n1_ n2_ n3_ n4_ n5_ n6_; clear hb hbox hg; have hnb13 := NB207_206.out; have hnc13 := NB206_207.out; have hcz14_0 : w12.cell? ⟨gb207, 0, none⟩ = some (.int .i64 0) := (blk_cell BK207.out 0).trans rfl; have hcz14_1 : w12.cell? ⟨gb207, 1, none⟩ = some (.slice none 0 0) := (blk_cell BK207.out 1).trans rfl; have hfz14_0 := blk_frozen BK207.out 0; have hfz14_1 := blk_frozen BK207.out 1) | ((with_reducible refine gate_callee (f := 42) rfl ?_); refine goesL_ (some 8) rfl rfl Tryd.func42 (by kernel_rfl) rfl #[.agg #[.int .i64 a0, .slice none 0 0]] rfl (by (try simp only [mT, mC, mN]); first | done | rfl | (simp only [List.length_drop, List.length_take]; rfl)) ?_; (refine (mac_Right.calls a0 _ _ ([] : List (S84)) false _ ?side1 ?side2 A2.out).mono ?_); (case side1 => exact Kd.C_nil _ _); (case side2 => exact Nat.le_refl _); rintro e w15 ⟨rfl, hb⟩; refine ⟨_, rfl, ?_⟩; have n0_ := Aside0.mk (blk_below (g := gb206) (o := .cells #[.int .i64 0, .slice none 0 0] 62 (0, 0)) (by (with_reducible repeat (first | refine blk_drewN ?_ _ | refine blk_drew ?_ | refine blk_alloc ?_ _)); refine blk_far ?_ NB206_207.out _; (with_reducible repeat (first | refine blk_drewN ?_ _ | refine blk_drew ?_ | refine blk_alloc ?_ _)); refine blk_far ?_ NB206_207.out _; (with_reducible repeat (first | refine blk_drewN ?_ _ | refine blk_drew ?_ | refine blk_alloc ?_ _)); exact BK206.out) hb); have n1_ := Aside0.mk (blk_below (g := gb207) (o := .cells #[.int .i64 a0, .slice none 0 0] 62 (0, 0)) (by (with_reducible repeat (first | refine blk_drewN ?_ _ | refine blk_drew ?_ | refine blk_alloc ?_ _)); refine blk_put (cs := #[.int .i64 a0, .slice none 0 0]) ?_ 1 _ rfl; (with_reducible repeat (first | refine blk_drewN ?_ _ | refine blk_drew ?_ | refine blk_alloc ?_ _)); refine blk_put (cs := #[.int .i64 0, .slice none 0 0]) ?_ 0 _ rfl; (with_reducible repeat (first | refine blk_drewN ?_ _ | refine blk_drew ?_ | refine blk_alloc ?_ _)); exact BK207.out) hb); have n2_ := Aside0.mk (below_step (by repeat (first | (with_reducible first | exact HB.out | apply bA | apply bN | apply bD | refine below_set ?_ GE206.out | refine below_set ?_ GE207.out) | exact HB.out)) hb); clear BK206; clear BK207; clear HB; have BK206 := n0_; have BK207 := n1_; have HB := n2_; clear n0_ n1_ n2_; (try clear hb); (try clear hb2); (try clear hk); (try clear hi); have hcz16_0 : w15.cell? ⟨gb206, 0, none⟩ = some (.int .i64 0) := (blk_cell BK206.out 0).trans rfl; have hcz16_1 : w15.cell? ⟨gb206, 1, none⟩ = some (.slice none 0 0) := (blk_cell BK206.out 1).trans rfl; have hfz16_0 := blk_frozen BK206.out 0; have hfz16_1 := blk_frozen BK206.out 1))
   refine bodyPost_ret (results_ct rfl _ _ gb206 62 #[.int .i64 0, .slice none 0 0] (0, 0) _ rfl (by (with_reducible repeat (first | refine blk_drewN ?_ _ | refine blk_drew ?_ | refine blk_alloc ?_ _)); refine blk_put (cs := #[.int .i64 0, .slice none 0 0]) ?_ 1 _ rfl; (with_reducible repeat (first | refine blk_drewN ?_ _ | refine blk_drew ?_ | refine blk_alloc ?_ _)); refine blk_put (cs := #[.int .i64 0, .slice none 0 0]) ?_ 0 _ rfl; (with_reducible repeat (first | refine blk_drewN ?_ _ | refine blk_drew ?_ | refine blk_alloc ?_ _)); exact BK206.out) Tryd.underlying62 rfl (by kernel_rfl)) rfl ?_
   exact ⟨_, by first | rfl | (simp [errW_none, errW_some] <;> rfl) | (simp [*, errW_none, errW_some] <;> rfl), by first | exact Kd.S_nil _ _ _ _ _ | exact Kd.N_nil _ _ _ _ _ | exact Kd.V_nil _ _ _ _ _ | exact Kd.Q_nil _ _ _ _ _ | exact Kd.R_nil _ _ _ _ _, by repeat (first | (with_reducible first | exact HB.out | apply bA | apply bN | apply bD | refine below_set ?_ GE206.out | refine below_set ?_ GE207.out) | exact HB.out)⟩

/-! ### wristbandlaw06_awake: function 39 -/
theorem ma.c2 {W : World} {g t : Nat} {a b : Value} (h : W.heap[g]? = some (.cells #[a, b] t (0, 0))) : W.cell? ⟨g, 0, none⟩ = some a ∧ W.cell? ⟨g, 1, none⟩ = some b := ⟨(blk_cell h 0).trans rfl, (blk_cell h 1).trans rfl⟩
theorem ma.nil {le : List S84} (h : le = []) (W : World) (A : Option Addr) : Kd.C k84 W A le.length le := by
  subst h
  exact ⟨rfl, by simp, fun h => absurd h (by simp)⟩
theorem ma.nilV {le : List S84} (h : le = []) (W : World) (n : Nat) (A : Option Addr) (c : Nat) : Kd.V k84 84 W n (fun _ => False) (.slice A le.length c) le :=
  Kd.V_mk (by subst h; simp) (fun W' _ => ma.nil h W' A)
theorem ma.conv (W : World) (x : Int) : (convert 24 24 (.slice (some ⟨W.heap.size, 0, none⟩) 1 1)).run Tryd.prog (W.alloc (.cells #[.int .u8 x] 5)) = .ok (.slice (some ⟨W.heap.size, 0, none⟩) 1 1) (W.alloc (.cells #[.int .u8 x] 5 (1, 2))) :=
  Lib.run_convert_bytes_const (P := Tryd.prog) W 24 5 #[.int .u8 x] 1 1 Tryd.underlying24 Tryd.underlying5
theorem ma.conv2 (W : World) (o : Obj) (x : Int) : (convert 24 24 (.slice (some ⟨W.heap.size + 1, 0, none⟩) 1 1)).run Tryd.prog ((W.alloc o).alloc (.cells #[.int .u8 x] 5)) = .ok (.slice (some ⟨W.heap.size + 1, 0, none⟩) 1 1) ((W.alloc o).alloc (.cells #[.int .u8 x] 5 (1, 2))) := by
  have h := ma.conv (W.alloc o) x
  rwa [alloc_size'] at h
theorem ma.lit {W : World} {g : Nat} {x : Int} {fr : Nat × Nat} (h : W.heap[g]? = some (.cells #[.int .u8 x] 5 fr)) : Kd.C (Kd.int .u8) W (some ⟨g, 0, none⟩) ([x] : List Int).length [x] := by
  refine Kd.C_of_reads (enc := Value.int .u8) (d := (0 : Int)) (h1 := fun _ => rfl) ?_
  refine ⟨rfl, by simp, fun _ => ⟨_, rfl, fun j hj => ?_⟩⟩
  match j, hj with
  | 0, _ => simp [World.cell?, Addr.add, h, rdOf]
set_option maxHeartbeats 8000000 in
set_option maxRecDepth 100000 in
theorem ma.awake (k : Nat) (le lg lc : List S84) (lk lm ln l8 tb td : List Int) (hle : le = []) (hlk : lk = [107]) (hlm : lm = [109]) (hln : ln = [110]) (hl8 : l8 = [0, 0, 0, 0, 0, 0, 0, 1]) (fn2 : mac_New.f 2 = some (2, le, 0)) (fn1 : mac_New.f 1 = some (1, le, 0)) (fn3 : mac_New.f 3 = some (0, le, 1)) (ff1 : mac_Fits.f k 2 le lk lm l8 = some false) (ft1 : mac_Tag.f k 2 le lk lm = some (2, lg, tb, 0)) (ft2 : mac_Tag.f k 1 le lk lm = some (1, lc, td, 0)) (ff2 : mac_Fits.f k 2 lg lk lm tb = some true) (ff3 : mac_Fits.f k 2 lg lk ln tb = some false) (ff4 : mac_Fits.f k 1 le lk lm td = some true) (fr : mac_Right.f 2 lg = some true) (hb8 : tb.length = 8) (hd8 : td.length = 8) (hg1 : lg.length = 1) (w : World) (hL0 : Kd.C (Kd.int .u32) w (some ⟨0, 0, none⟩) 64 shaK) (hL1 : Kd.C (Kd.int .u32) w (some ⟨1, 0, none⟩) 8 shaF) :
    Calls Tryd.prog 39 #[] w fun e w' => e = .returned (.bool true) ∧ Below w.heap.size w w' := by
  have HLE := Aside0.mk hle; have LK := Aside0.mk hlk; have LM := Aside0.mk hlm; have LN := Aside0.mk hln; have L8 := Aside0.mk hl8; have FN2 := Aside0.mk fn2; have FN1 := Aside0.mk fn1; have FN3 := Aside0.mk fn3; have FF1 := Aside0.mk ff1; have FT1 := Aside0.mk ft1; have FT2 := Aside0.mk ft2; have FF2 := Aside0.mk ff2; have FF3 := Aside0.mk ff3; have FF4 := Aside0.mk ff4; have FR := Aside0.mk fr
  have HL0 := Aside0.mk hL0; have HL1 := Aside0.mk hL1
  have y1 : (tb.length == 8) = true := beq_iff_eq.2 hb8
  have y2 : ((tb.length : Int) == 8) = true := beq_iff_eq.2 (by omega)
  have y3 : (td.length == 8) = true := beq_iff_eq.2 hd8
  have y4 : ((td.length : Int) == 8) = true := beq_iff_eq.2 (by omega)
  have y5 : (lg.length == 1) = true := beq_iff_eq.2 hg1
  have y6 : ((lg.length : Int) == 1) = true := beq_iff_eq.2 (by omega)
  clear hle hlk hlm hln hl8 fn2 fn1 fn3 ff1 ft1 ft2 ff2 ff3 ff4 fr hL0 hL1 hb8 hd8 hg1
  have HB := Aside0.mk (Below.refl w.heap.size w)
  have H := Aside0.mk (Below.refl w.heap.size w)
  go_enter Tryd.func39, Tryd.ntmps39
  go_upto_region 2 with (go_at_call 60; refine Calls.mono (mac_New.calls 2 2 le 0 _ FN2.out) ?_; rintro e wn ⟨v, rfl, h0, hb⟩; obtain ⟨Ae, ce, rfl⟩ := Kd.S_slice h0; have Ze := Aside0.mk (Kd.R_reads' (Kd.S_R h0)).2.1; have H9 := Aside0.mk (below_step H.out hb); clear H; have H := H9; clear H9; clear h0 hb)
  have B19 := Aside0.mk (blk_new wn (.cells #[.int .i64 2, .slice Ae le.length ce] 62))
  have HB9 := Aside0.mk (below_alloc (below_step HB.out H.out) (.cells #[.int .i64 2, .slice Ae le.length ce] 62))
  have GB19 := Aside0.mk (below_step HB.out H.out).size
  generalize wn.alloc (.cells #[.int .i64 2, .slice Ae le.length ce] 62) = W1 at B19 HB9 ⊢
  generalize wn.heap.size = g1 at B19 GB19 ⊢
  clear H
  have B1 := B19
  clear B19
  clear HB
  have HB := HB9
  clear HB9
  have GB1 := GB19
  clear GB19
  have H := Aside0.mk (Below.refl W1.heap.size W1)
  obtain ⟨pa0, pa1⟩ := ma.c2 (blk_below B1.out H.out)
  go_upto_region 3 with (first
    | ((with_reducible refine gate_dst (N := 18) rfl ?_); (try (refine gate_guard (by rfl) ?_; dsimp only)); refine V_const (base := _) (e := 5) (t := 24) (N' := 18) ?hg ?hd ?ho2 ?hlt Tryd.underlying24 Tryd.underlying5 (xs := [107]) (ok := fun _ => True) ?hr ?hg2 trivial (Below.refl _ _) (Nat.le_refl _) (by simp) ?_; (case hd => rfl); (case hg => rfl); (case ho2 => rfl); (case hg2 => rfl); (case hlt => exact of_decide_eq_true rfl); (case hr => first | (go_simp; done) | (go_simp; rfl)); intro v wl ho hb _ _; rw [← LK.out] at ho; obtain ⟨Ak, ck, rfl⟩ := Kd.V_slice ho; have Kk := Aside0.mk (Kd.V_reads' ho).2.2; have Zk := Aside0.mk (Kd.V_reads' ho).2.1; have H9 := Aside0.mk (below_step H.out hb); clear H; have H := H9; clear H9; clear ho hb)
    | ((with_reducible refine gate_dst (N := 20) rfl ?_); (try (refine gate_guard (by rfl) ?_; dsimp only)); refine V_const (base := _) (e := 5) (t := 24) (N' := 20) ?hg ?hd ?ho2 ?hlt Tryd.underlying24 Tryd.underlying5 (xs := [109]) (ok := fun _ => True) ?hr ?hg2 trivial (Below.refl _ _) (Nat.le_refl _) (by simp) ?_; (case hd => rfl); (case hg => rfl); (case ho2 => rfl); (case hg2 => rfl); (case hlt => exact of_decide_eq_true rfl); (case hr => first | (go_simp; done) | (go_simp; rfl)); intro v wl ho hb _ _; rw [← LM.out] at ho; obtain ⟨Am, cm, rfl⟩ := Kd.V_slice ho; have Km := Aside0.mk (Kd.V_reads' ho).2.2; have Zm := Aside0.mk (Kd.V_reads' ho).2.1; have H9 := Aside0.mk (below_step H.out hb); clear H; have H := H9; clear H9; have Kk9 := Aside0.mk (Kd.C_below Kk.out hb); clear Kk; have Kk := Kk9; clear Kk9; clear ho hb)
    | ((with_reducible refine gate_dst (N := 22) rfl ?_); (try (refine gate_guard (by rfl) ?_; dsimp only)); refine Kd.R_lit (Kd.int .u8) _ 5 ?hg (N := 22) ?hd (xs := ([0, 0, 0, 0, 0, 0, 0, 1] : List Int)) (inner := [.int .u8 0, .int .u8 0, .int .u8 0, .int .u8 0, .int .u8 0, .int .u8 0, .int .u8 0, .int .u8 1]) (ok := fun _ => True) (okp := fun _ => True) ?hr ?hp (fun _ hk => hk) trivial (Below.refl _ _) (Nat.le_refl _) (by simp) ?_; (case hd => rfl); (case hg => rfl); (case hr => first | (go_simp; done) | (go_simp; rfl)); (case hp => exact (Reps.one (show Kd.M (Kd.int .u8) _ _ _ 0 [.int .u8 0] from rfl) (Reps.one (show Kd.M (Kd.int .u8) _ _ _ 0 [.int .u8 0] from rfl) (Reps.one (show Kd.M (Kd.int .u8) _ _ _ 0 [.int .u8 0] from rfl) (Reps.one (show Kd.M (Kd.int .u8) _ _ _ 0 [.int .u8 0] from rfl) (Reps.one (show Kd.M (Kd.int .u8) _ _ _ 0 [.int .u8 0] from rfl) (Reps.one (show Kd.M (Kd.int .u8) _ _ _ 0 [.int .u8 0] from rfl) (Reps.one (show Kd.M (Kd.int .u8) _ _ _ 0 [.int .u8 0] from rfl) (Reps.one (show Kd.M (Kd.int .u8) _ _ _ 1 [.int .u8 1] from rfl) (Reps.none _ _)))))))))); intro v wl ho hb _ _; rw [← L8.out] at ho; obtain ⟨At, ct, rfl⟩ := Kd.R_slice ho; have Kt := Aside0.mk (Kd.R_reads' ho).2.2; have Zt := Aside0.mk (Kd.R_reads' ho).2.1; have H9 := Aside0.mk (below_step H.out hb); clear H; have H := H9; clear H9; have Kk9 := Aside0.mk (Kd.C_below Kk.out hb); clear Kk; have Kk := Kk9; clear Kk9; have Km9 := Aside0.mk (Kd.C_below Km.out hb); clear Km; have Km := Km9; clear Km9; clear ho hb)
    | (go_at_call 43; (with_reducible refine Calls.mono (mac_Fits.calls k 2 _ _ le _ _ lk _ _ lm _ _ l8 false _ (ma.nil HLE.out _ _) Ze.out Kk.out Zk.out Km.out Zm.out Kt.out Zt.out (Kd.C_below HL0.out (below_step HB.out H.out)) (Kd.C_below HL1.out (below_step HB.out H.out)) FF1.out) ?_); rintro e wf ⟨rfl, hb⟩; have H9 := Aside0.mk (below_step H.out hb); clear H; have H := H9; clear H9; clear hb Kk Km))
  clear pa0 pa1 Kt
  obtain ⟨pa0, pa1⟩ := ma.c2 (blk_below B1.out H.out)
  go_upto_region 4 with (first
    | ((with_reducible refine gate_dst (N := 26) rfl ?_); (try (refine gate_guard (by rfl) ?_; dsimp only)); refine V_const (base := _) (e := 5) (t := 24) (N' := 26) ?hg ?hd ?ho2 ?hlt Tryd.underlying24 Tryd.underlying5 (xs := [107]) (ok := fun _ => True) ?hr ?hg2 trivial (Below.refl _ _) (Nat.le_refl _) (by simp) ?_; (case hd => rfl); (case hg => rfl); (case ho2 => rfl); (case hg2 => rfl); (case hlt => exact of_decide_eq_true rfl); (case hr => first | (go_simp; done) | (go_simp; rfl)); intro v wl ho hb _ _; rw [← LK.out] at ho; obtain ⟨Ak, ck, rfl⟩ := Kd.V_slice ho; have Kk := Aside0.mk (Kd.V_reads' ho).2.2; have Zk := Aside0.mk (Kd.V_reads' ho).2.1; have H9 := Aside0.mk (below_step H.out hb); clear H; have H := H9; clear H9; clear ho hb)
    | ((with_reducible refine gate_dst (N := 28) rfl ?_); (try (refine gate_guard (by rfl) ?_; dsimp only)); refine V_const (base := _) (e := 5) (t := 24) (N' := 28) ?hg ?hd ?ho2 ?hlt Tryd.underlying24 Tryd.underlying5 (xs := [109]) (ok := fun _ => True) ?hr ?hg2 trivial (Below.refl _ _) (Nat.le_refl _) (by simp) ?_; (case hd => rfl); (case hg => rfl); (case ho2 => rfl); (case hg2 => rfl); (case hlt => exact of_decide_eq_true rfl); (case hr => first | (go_simp; done) | (go_simp; rfl)); intro v wl ho hb _ _; rw [← LM.out] at ho; obtain ⟨Am, cm, rfl⟩ := Kd.V_slice ho; have Km := Aside0.mk (Kd.V_reads' ho).2.2; have Zm := Aside0.mk (Kd.V_reads' ho).2.1; have H9 := Aside0.mk (below_step H.out hb); clear H; have H := H9; clear H9; have Kk9 := Aside0.mk (Kd.C_below Kk.out hb); clear Kk; have Kk := Kk9; clear Kk9; clear ho hb)
    | (go_at_call 41; refine Calls.mono (mac_Tag.calls k 2 (fun _ => False) _ _ le _ _ lk _ _ lm 2 lg tb 0 _ (ma.nilV HLE.out _ _ _ _) Kk.out Zk.out Km.out Zm.out (Kd.C_below HL0.out (below_step HB.out H.out)) (Kd.C_below HL1.out (below_step HB.out H.out)) FT1.out) ?_; rintro e wt ⟨v1, v2, rfl, h1, h2, hb⟩; obtain ⟨Ag, cg, rfl⟩ := Kd.V_slice h1; obtain ⟨Ab, cb, rfl⟩ := Kd.V_slice h2; have VG := Aside0.mk (Kd.V_mono (ok' := fun k_ => g1 < k_) h1 (fun k_ hk => by rcases hk with hk | hk; exact hk.elim; exact Nat.lt_of_lt_of_le (blk_lt (blk_below B1.out H.out)) hk)); have VB := Aside0.mk (Kd.V_mono (ok' := fun k_ => g1 < k_) h2 (fun k_ hk => by rcases hk with hk | hk; exact hk.elim; exact Nat.lt_of_lt_of_le (blk_lt (blk_below B1.out H.out)) hk)); have H9 := Aside0.mk (below_step H.out hb); clear H; have H := H9; clear H9; clear h1 h2 hb Kk Km; obtain ⟨pb0, pb1⟩ := ma.c2 (blk_below B1.out H.out); have f0 := blk_frozen (blk_below B1.out H.out) 0; have f1 := blk_frozen (blk_below B1.out H.out) 1))
  clear pa0 pa1
  have B19 := Aside0.mk (mk.set2 (c := .int .i64 2) (d := .slice Ag lg.length cg) (blk_below B1.out H.out))
  have VG9 := Aside0.mk (mk.far2 (c := .int .i64 2) (d := .slice Ag lg.length cg) VG.out (fun k_ hk => Nat.ne_of_gt hk))
  have VB9 := Aside0.mk (mk.far2 (c := .int .i64 2) (d := .slice Ag lg.length cg) VB.out (fun k_ hk => Nat.ne_of_gt hk))
  have HB9 := Aside0.mk (below_set (j := 1) (v := .slice Ag lg.length cg) (below_set (j := 0) (v := .int .i64 2) (below_step HB.out H.out) GB1.out) GB1.out)
  clear pb0 pb1 f0 f1 VG VB B1 HB H
  generalize (wt.setCell ⟨g1, 0, none⟩ (.int .i64 2)).setCell ⟨g1, 1, none⟩ (.slice Ag lg.length cg) = W3 at B19 VG9 VB9 HB9 ⊢
  have B1 := B19; have HB := HB9; have KG := Aside0.mk (Kd.V_reads' VG9.out).2.2; have ZG := Aside0.mk (Kd.V_reads' VG9.out).2.1; have KB := Aside0.mk (Kd.V_reads' VB9.out).2.2; have ZB := Aside0.mk (Kd.V_reads' VB9.out).2.1
  clear B19 HB9 VG9 VB9
  have H := Aside0.mk (Below.refl W3.heap.size W3)
  go_upto_region 5 with (go_at_call 60; refine Calls.mono (mac_New.calls 1 1 le 0 _ FN1.out) ?_; rintro e wq ⟨v, rfl, h0, hb⟩; obtain ⟨Af, cf, rfl⟩ := Kd.S_slice h0; have Zf := Aside0.mk (Kd.R_reads' (Kd.S_R h0)).2.1; have H9 := Aside0.mk (below_step H.out hb); clear H; have H := H9; clear H9; clear h0 hb)
  have B69 := Aside0.mk (blk_new wq (.cells #[.int .i64 1, .slice Af le.length cf] 62))
  have B19 := Aside0.mk (blk_alloc (blk_below B1.out H.out) (.cells #[.int .i64 1, .slice Af le.length cf] 62))
  have KG9 := Aside0.mk (Kd.C_alloc (Kd.C_below KG.out H.out) (.cells #[.int .i64 1, .slice Af le.length cf] 62))
  have KB9 := Aside0.mk (Kd.C_alloc (Kd.C_below KB.out H.out) (.cells #[.int .i64 1, .slice Af le.length cf] 62))
  have HB9 := Aside0.mk (below_alloc (below_step HB.out H.out) (.cells #[.int .i64 1, .slice Af le.length cf] 62))
  have GB69 := Aside0.mk (below_step HB.out H.out).size
  generalize wq.alloc (.cells #[.int .i64 1, .slice Af le.length cf] 62) = W4 at B69 B19 KG9 KB9 HB9 ⊢
  generalize wq.heap.size = g6 at B69 GB69 ⊢
  clear H
  have B6 := B69
  clear B69
  clear B1
  have B1 := B19
  clear B19
  clear KG
  have KG := KG9
  clear KG9
  clear KB
  have KB := KB9
  clear KB9
  clear HB
  have HB := HB9
  clear HB9
  have GB6 := GB69
  clear GB69
  have H := Aside0.mk (Below.refl W4.heap.size W4)
  obtain ⟨pa0, pa1⟩ := ma.c2 (blk_below B6.out H.out)
  go_upto_region 6 with (first
    | ((with_reducible refine gate_dst (N := 40) rfl ?_); (try (refine gate_guard (by rfl) ?_; dsimp only)); refine V_const (base := _) (e := 5) (t := 24) (N' := 40) ?hg ?hd ?ho2 ?hlt Tryd.underlying24 Tryd.underlying5 (xs := [107]) (ok := fun _ => True) ?hr ?hg2 trivial (Below.refl _ _) (Nat.le_refl _) (by simp) ?_; (case hd => rfl); (case hg => rfl); (case ho2 => rfl); (case hg2 => rfl); (case hlt => exact of_decide_eq_true rfl); (case hr => first | (go_simp; done) | (go_simp; rfl)); intro v wl ho hb _ _; rw [← LK.out] at ho; obtain ⟨Ak, ck, rfl⟩ := Kd.V_slice ho; have Kk := Aside0.mk (Kd.V_reads' ho).2.2; have Zk := Aside0.mk (Kd.V_reads' ho).2.1; have H9 := Aside0.mk (below_step H.out hb); clear H; have H := H9; clear H9; clear ho hb)
    | ((with_reducible refine gate_dst (N := 42) rfl ?_); (try (refine gate_guard (by rfl) ?_; dsimp only)); refine V_const (base := _) (e := 5) (t := 24) (N' := 42) ?hg ?hd ?ho2 ?hlt Tryd.underlying24 Tryd.underlying5 (xs := [109]) (ok := fun _ => True) ?hr ?hg2 trivial (Below.refl _ _) (Nat.le_refl _) (by simp) ?_; (case hd => rfl); (case hg => rfl); (case ho2 => rfl); (case hg2 => rfl); (case hlt => exact of_decide_eq_true rfl); (case hr => first | (go_simp; done) | (go_simp; rfl)); intro v wl ho hb _ _; rw [← LM.out] at ho; obtain ⟨Am, cm, rfl⟩ := Kd.V_slice ho; have Km := Aside0.mk (Kd.V_reads' ho).2.2; have Zm := Aside0.mk (Kd.V_reads' ho).2.1; have H9 := Aside0.mk (below_step H.out hb); clear H; have H := H9; clear H9; have Kk9 := Aside0.mk (Kd.C_below Kk.out hb); clear Kk; have Kk := Kk9; clear Kk9; clear ho hb)
    | (go_at_call 41; refine Calls.mono (mac_Tag.calls k 1 (fun _ => False) _ _ le _ _ lk _ _ lm 1 lc td 0 _ (ma.nilV HLE.out _ _ _ _) Kk.out Zk.out Km.out Zm.out (Kd.C_below HL0.out (below_step HB.out H.out)) (Kd.C_below HL1.out (below_step HB.out H.out)) FT2.out) ?_; rintro e wu ⟨v1, v2, rfl, h1, h2, hb⟩; obtain ⟨Ac, cc, rfl⟩ := Kd.V_slice h1; obtain ⟨Ad, cd, rfl⟩ := Kd.V_slice h2; have KD := Aside0.mk (Kd.V_reads' h2).2.2; have ZD := Aside0.mk (Kd.V_reads' h2).2.1; have H9 := Aside0.mk (below_step H.out hb); clear H; have H := H9; clear H9; clear h1 h2 hb Kk Km))
  clear pa0 pa1
  have B89 := Aside0.mk (blk_new wu (.cells #[.int .i64 1, .slice Ac lc.length cc] 62))
  have B19 := Aside0.mk (blk_alloc (blk_below B1.out H.out) (.cells #[.int .i64 1, .slice Ac lc.length cc] 62))
  have B69 := Aside0.mk (blk_alloc (blk_below B6.out H.out) (.cells #[.int .i64 1, .slice Ac lc.length cc] 62))
  have KG9 := Aside0.mk (Kd.C_alloc (Kd.C_below KG.out H.out) (.cells #[.int .i64 1, .slice Ac lc.length cc] 62))
  have KB9 := Aside0.mk (Kd.C_alloc (Kd.C_below KB.out H.out) (.cells #[.int .i64 1, .slice Ac lc.length cc] 62))
  have KD9 := Aside0.mk (Kd.C_alloc KD.out (.cells #[.int .i64 1, .slice Ac lc.length cc] 62))
  have HB9 := Aside0.mk (below_alloc (below_step HB.out H.out) (.cells #[.int .i64 1, .slice Ac lc.length cc] 62))
  have GB89 := Aside0.mk (below_step HB.out H.out).size
  generalize wu.alloc (.cells #[.int .i64 1, .slice Ac lc.length cc] 62) = W5 at B89 B19 B69 KG9 KB9 KD9 HB9 ⊢
  generalize wu.heap.size = g8 at B89 GB89 ⊢
  clear H
  have B8 := B89
  clear B89
  clear B1
  have B1 := B19
  clear B19
  clear B6
  have B6 := B69
  clear B69
  clear KG
  have KG := KG9
  clear KG9
  clear KB
  have KB := KB9
  clear KB9
  clear KD
  have KD := KD9
  clear KD9
  clear HB
  have HB := HB9
  clear HB9
  have GB8 := GB89
  clear GB89
  have H := Aside0.mk (Below.refl W5.heap.size W5)
  go_upto_region 7 with (go_at_call 60; refine Calls.mono (mac_New.calls 3 0 le 1 _ FN3.out) ?_; rintro e wv ⟨v, rfl, h0, hb⟩; obtain ⟨Ah, ch, rfl⟩ := Kd.S_slice h0; have Zh := Aside0.mk (Kd.R_reads' (Kd.S_R h0)).2.1; have H9 := Aside0.mk (below_step H.out hb); clear H; have H := H9; clear H9; clear h0 hb)
  have B119 := Aside0.mk (blk_new wv (.cells #[.int .i64 0, .slice Ah le.length ch] 62))
  have B19 := Aside0.mk (blk_alloc (blk_below B1.out H.out) (.cells #[.int .i64 0, .slice Ah le.length ch] 62))
  have B69 := Aside0.mk (blk_alloc (blk_below B6.out H.out) (.cells #[.int .i64 0, .slice Ah le.length ch] 62))
  have KG9 := Aside0.mk (Kd.C_alloc (Kd.C_below KG.out H.out) (.cells #[.int .i64 0, .slice Ah le.length ch] 62))
  have KB9 := Aside0.mk (Kd.C_alloc (Kd.C_below KB.out H.out) (.cells #[.int .i64 0, .slice Ah le.length ch] 62))
  have KD9 := Aside0.mk (Kd.C_alloc (Kd.C_below KD.out H.out) (.cells #[.int .i64 0, .slice Ah le.length ch] 62))
  have HB9 := Aside0.mk (below_alloc (below_step HB.out H.out) (.cells #[.int .i64 0, .slice Ah le.length ch] 62))
  have GB119 := Aside0.mk (below_step HB.out H.out).size
  generalize wv.alloc (.cells #[.int .i64 0, .slice Ah le.length ch] 62) = W6 at B119 B19 B69 KG9 KB9 KD9 HB9 ⊢
  generalize wv.heap.size = g11 at B119 GB119 ⊢
  clear H
  have B11 := B119
  clear B119
  clear B1
  have B1 := B19
  clear B19
  clear B6
  have B6 := B69
  clear B69
  clear KG
  have KG := KG9
  clear KG9
  clear KB
  have KB := KB9
  clear KB9
  clear KD
  have KD := KD9
  clear KD9
  clear HB
  have HB := HB9
  clear HB9
  have GB11 := GB119
  clear GB119
  have H := Aside0.mk (Below.refl W6.heap.size W6)
  obtain ⟨pa0, pa1⟩ := ma.c2 (blk_below B1.out H.out); obtain ⟨pb0, pb1⟩ := ma.c2 (blk_below B6.out H.out)
  have FG2 := FF2.out; have FG3 := FF3.out; have FG4 := FF4.out
  rw [LK.out, LM.out] at FG2 FG4
  rw [LK.out, LN.out] at FG3
  have F2 := Aside0.mk FG2; have F3 := Aside0.mk FG3; have F4 := Aside0.mk FG4
  clear FG2 FG3 FG4 FF2 FF3 FF4
  have cv1 := ma.conv; have cv2 := ma.conv2
  go_wp2_with fail
  refine Calls.mono (mac_Fits.calls k 2 _ _ lg _ _ [107] _ _ [109] _ _ tb true _ ?h1a ?h2a ?h3a ?h4a ?h5a ?h6a ?h7a ?h8a ?h9a ?h10a ?h11a) ?_
  case h1a => exact (Kd.C_below KG.out (below_alloc (below_alloc H.out _) _))
  case h2a => exact ZG.out
  case h3a => exact ma.lit (x := 107) (fr := (1, 2)) (blk_alloc (blk_new _ _) _)
  case h4a => exact by decide
  case h5a => exact ma.lit (x := 109) (fr := (1, 2)) (mk.two _ _ _).2.1
  case h6a => exact by decide
  case h7a => exact (Kd.C_below KB.out (below_alloc (below_alloc H.out _) _))
  case h8a => exact ZB.out
  case h9a => exact (Kd.C_below HL0.out (below_alloc (below_alloc (below_step HB.out H.out) _) _))
  case h10a => exact (Kd.C_below HL1.out (below_alloc (below_alloc (below_step HB.out H.out) _) _))
  case h11a => exact F2.out
  rintro e wf2 ⟨rfl, hb⟩
  have H9 := Aside0.mk (below_step (below_alloc (below_alloc H.out _) _) hb)
  clear H hb
  have H := H9
  clear H9
  obtain ⟨qa0, qa1⟩ := ma.c2 (blk_below B1.out H.out); obtain ⟨qb0, qb1⟩ := ma.c2 (blk_below B6.out H.out)
  go_wp2_with fail
  refine Calls.mono (mac_Fits.calls k 2 _ _ lg _ _ [107] _ _ [110] _ _ tb false _ ?h1b ?h2b ?h3b ?h4b ?h5b ?h6b ?h7b ?h8b ?h9b ?h10b ?h11b) ?_
  case h1b => exact (Kd.C_below KG.out (below_alloc (below_alloc H.out _) _))
  case h2b => exact ZG.out
  case h3b => exact ma.lit (x := 107) (fr := (1, 2)) (blk_alloc (blk_new _ _) _)
  case h4b => exact by decide
  case h5b => exact ma.lit (x := 110) (fr := (1, 2)) (mk.two _ _ _).2.1
  case h6b => exact by decide
  case h7b => exact (Kd.C_below KB.out (below_alloc (below_alloc H.out _) _))
  case h8b => exact ZB.out
  case h9b => exact (Kd.C_below HL0.out (below_alloc (below_alloc (below_step HB.out H.out) _) _))
  case h10b => exact (Kd.C_below HL1.out (below_alloc (below_alloc (below_step HB.out H.out) _) _))
  case h11b => exact F3.out
  rintro e wf3 ⟨rfl, hb⟩
  have H9 := Aside0.mk (below_step (below_alloc (below_alloc H.out _) _) hb)
  clear H hb
  have H := H9
  clear H9
  obtain ⟨ra0, ra1⟩ := ma.c2 (blk_below B1.out H.out); obtain ⟨rb0, rb1⟩ := ma.c2 (blk_below B6.out H.out)
  go_wp2_with fail
  refine Calls.mono (mac_Fits.calls k 1 _ _ le _ _ [107] _ _ [109] _ _ td true _ ?h1c ?h2c ?h3c ?h4c ?h5c ?h6c ?h7c ?h8c ?h9c ?h10c ?h11c) ?_
  case h1c => exact (ma.nil HLE.out _ _)
  case h2c => exact Zf.out
  case h3c => exact ma.lit (x := 107) (fr := (1, 2)) (blk_alloc (blk_new _ _) _)
  case h4c => exact by decide
  case h5c => exact ma.lit (x := 109) (fr := (1, 2)) (mk.two _ _ _).2.1
  case h6c => exact by decide
  case h7c => exact (Kd.C_below KD.out (below_alloc (below_alloc H.out _) _))
  case h8c => exact ZD.out
  case h9c => exact (Kd.C_below HL0.out (below_alloc (below_alloc (below_step HB.out H.out) _) _))
  case h10c => exact (Kd.C_below HL1.out (below_alloc (below_alloc (below_step HB.out H.out) _) _))
  case h11c => exact F4.out
  rintro e wf4 ⟨rfl, hb⟩
  have H9 := Aside0.mk (below_step (below_alloc (below_alloc H.out _) _) hb)
  clear H hb
  have H := H9
  clear H9
  obtain ⟨sa0, sa1⟩ := ma.c2 (blk_below B1.out H.out); obtain ⟨sb0, sb1⟩ := ma.c2 (blk_below B6.out H.out)
  go_wp2_with fail
  refine Calls.mono (mac_Right.calls 2 _ _ lg true _ (Kd.C_below KG.out H.out) ZG.out FR.out) ?_
  rintro e wr ⟨rfl, hb⟩
  have H9 := Aside0.mk (below_step H.out hb)
  go_wp2_with fail
  go_ret
  exact ⟨rfl, below_step HB.out H9.out⟩

end Go.Proofs.YtnpkhkhlofkbhaaDoor.PMacFits
