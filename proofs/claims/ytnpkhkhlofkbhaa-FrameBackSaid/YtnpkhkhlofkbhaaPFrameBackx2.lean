-- made by a program of this session (its printer) out of what Lean prints of the given program
import Derived.Test.YtnpkhkhlofkbhaaPFrameBackx0
import Derived.Test.YtnpkhkhlofkbhaaPFrameBackx1
namespace Go.Proofs.Ytnpkhkhlofkbhaa.PFrameBack
open Go.RowKit Go.Proofs.YtnpkhkhlofkbhaaW.PrintWords Go.Proofs.YtnpkhkhlofkbhaaW.PrintLast Go.Proofs.YtnpkhkhlofkbhaaW.PrintMore
attribute [local go_sem] max2_int min2_int max_two min_two max_three min_three max_four min_four   -- for this text's walks alone
set_option linter.unusedVariables false
set_option linter.unusedSimpArgs false

/-- A state of type 91 at block g of W; what its slices lead to came in by w0. -/
def IsS91 (w0 W : World) (g : Nat) (f0 : Int) (f1 : Int) (f2 : Int) (f3 : List Int) : Prop := ∃ A3 c3, W.heap[g]? = some (.cells #[.int .u64 f0, .int .u64 f1, .int .u64 f2, .slice A3 f3.length c3] 91 (0, 0)) ∧ w0.heap.size ≤ g ∧ Kd.C (Kd.int .u8) w0 A3 f3.length f3
theorem IsS91.grown {w0 W : World} {g : Nat} {f0 : Int} {f1 : Int} {f2 : Int} {f3 : List Int} {W1 : World} {row : Option Nat} (h : IsS91 w0 W g f0 f1 f2 f3) (hw : W.grownBy W1 row) (hne : some g ≠ row) : IsS91 w0 W1 g f0 f1 f2 f3 := by
  obtain ⟨A3, c3, hb, hg, hr3⟩ := h
  exact ⟨A3, c3, blk_grown hb hw hne, hg, hr3⟩
theorem IsS91.own_neN {w0 W : World} {g : Nat} {f0 : Int} {f1 : Int} {f2 : Int} {f3 : List Int} {α : Type} {d : Kd α} {e : Nat} {base : Nat} {ok : Nat → Prop} {v : Value} {xs : List α} (h : IsS91 w0 W g f0 f1 f2 f3) (ho : Kd.N d e W base ok v xs) (ht : e ≠ 91) : some g ≠ v.ownBlock := by
  obtain ⟨A3, c3, hb, hg, hr3⟩ := h
  exact Kd.N_ne ho hb ht
theorem IsS91.fresh {w0 W : World} {g : Nat} {f0 : Int} {f1 : Int} {f2 : Int} {f3 : List Int} (h : IsS91 w0 W g f0 f1 f2 f3) : ∀ k, W.heap.size ≤ k → k ≠ g := by
  obtain ⟨A3, c3, hb, hg, hr3⟩ := h
  exact Kd.freshB hb
theorem IsS91.kept {w0 W : World} {g : Nat} {f0 : Int} {f1 : Int} {f2 : Int} {f3 : List Int} {W1 : World} {S : Nat → Prop} (h : IsS91 w0 W g f0 f1 f2 f3) (hk : Kept W W1 S) (hne : ¬ S g) : IsS91 w0 W1 g f0 f1 f2 f3 := by
  obtain ⟨A3, c3, hb, hg, hr3⟩ := h
  exact ⟨A3, c3, blk_kept hb hk hne, hg, hr3⟩
theorem IsS91.below {w0 W : World} {g : Nat} {f0 : Int} {f1 : Int} {f2 : Int} {f3 : List Int} {W1 : World} (h : IsS91 w0 W g f0 f1 f2 f3) (hw : Below W.heap.size W W1) : IsS91 w0 W1 g f0 f1 f2 f3 := h.grown (grown_of_below hw none) (by simp)
theorem IsS91.alloc {w0 W : World} {g : Nat} {f0 : Int} {f1 : Int} {f2 : Int} {f3 : List Int} (h : IsS91 w0 W g f0 f1 f2 f3) (o : Obj) : IsS91 w0 (W.alloc o) g f0 f1 f2 f3 := h.below (below_alloc (Below.refl _ _) o)
theorem IsS91.drewN {w0 W : World} {g : Nat} {f0 : Int} {f1 : Int} {f2 : Int} {f3 : List Int} (h : IsS91 w0 W g f0 f1 f2 f3) (m : Nat) : IsS91 w0 (W.drewN m) g f0 f1 f2 f3 := h
theorem IsS91.drew {w0 W : World} {g : Nat} {f0 : Int} {f1 : Int} {f2 : Int} {f3 : List Int} (h : IsS91 w0 W g f0 f1 f2 f3) : IsS91 w0 W.drew g f0 f1 f2 f3 := h
theorem IsS91.at_ {w0 W : World} {g : Nat} {f0 : Int} {f1 : Int} {f2 : Int} {f3 : List Int} {w' : World} {m : Nat} (hq : W.drewN m = w') (h : IsS91 w0 W g f0 f1 f2 f3) : IsS91 w0 w' g f0 f1 f2 f3 := by subst hq; exact IsS91.drewN h m
theorem IsS91.apart {w0 W : World} {g : Nat} {f0 : Int} {f1 : Int} {f2 : Int} {f3 : List Int} {α : Type} {d : Kd α} {e : Nat} {base : Nat} {ok : Nat → Prop} {v : Value} {xs : List α} (h : IsS91 w0 W g f0 f1 f2 f3) (ho : d.R e W base ok v xs) (ht : ∀ q, q ∈ e :: d.E → q ≠ 91) : d.R e W base (fun k => ok k ∧ k ≠ g) v xs := by
  obtain ⟨A3, c3, hb, hg, hr3⟩ := h
  exact Kd.R_types ho hb ht
theorem IsS91.own_ne {w0 W : World} {g : Nat} {f0 : Int} {f1 : Int} {f2 : Int} {f3 : List Int} {α : Type} {d : Kd α} {e : Nat} {base : Nat} {ok : Nat → Prop} {v : Value} {xs : List α} (h : IsS91 w0 W g f0 f1 f2 f3) (ho : d.R e W base ok v xs) (ht : e ≠ 91) : some g ≠ v.ownBlock := by
  obtain ⟨A3, c3, hb, hg, hr3⟩ := h
  exact Kd.R_ne ho hb ht
theorem IsS91.apartQ {w0 W : World} {g : Nat} {f0 : Int} {f1 : Int} {f2 : Int} {f3 : List Int} {α : Type} {d : Kd α} {e : Nat} {base : Nat} {ok : Nat → Prop} {v : Value} {xs : List α} (h : IsS91 w0 W g f0 f1 f2 f3) (ho : d.Q e W base ok v xs) (ht : ∀ q, q ∈ e :: d.E → q ≠ 91) : d.Q e W base (fun k => ok k ∧ k ≠ g) v xs := by
  obtain ⟨A3, c3, hb, hg, hr3⟩ := h
  exact Kd.Q_types ho hb ht
theorem IsS91.own_neQ {w0 W : World} {g : Nat} {f0 : Int} {f1 : Int} {f2 : Int} {f3 : List Int} {α : Type} {d : Kd α} {e : Nat} {base : Nat} {ok : Nat → Prop} {v : Value} {xs : List α} (h : IsS91 w0 W g f0 f1 f2 f3) (ho : d.Q e W base ok v xs) (ht : e ≠ 91) : some g ≠ v.ownBlock := by
  obtain ⟨A3, c3, hb, hg, hr3⟩ := h
  exact Kd.Q_ne ho hb ht
theorem IsS91.apartS {w0 W : World} {g : Nat} {f0 : Int} {f1 : Int} {f2 : Int} {f3 : List Int} {α : Type} {d : Kd α} {e : Nat} {base : Nat} {ok : Nat → Prop} {v : Value} {xs : List α} (h : IsS91 w0 W g f0 f1 f2 f3) (ho : d.S e W base ok v xs) (ht : ∀ q, q ∈ e :: d.E → q ≠ 91) : d.S e W base (fun k => ok k ∧ k ≠ g) v xs := by
  obtain ⟨A3, c3, hb, hg, hr3⟩ := h
  exact Kd.S_types ho hb ht
theorem IsS91.own_neS {w0 W : World} {g : Nat} {f0 : Int} {f1 : Int} {f2 : Int} {f3 : List Int} {α : Type} {d : Kd α} {e : Nat} {base : Nat} {ok : Nat → Prop} {v : Value} {xs : List α} (h : IsS91 w0 W g f0 f1 f2 f3) (ho : d.S e W base ok v xs) (ht : e ≠ 91) : some g ≠ v.ownBlock := by
  obtain ⟨A3, c3, hb, hg, hr3⟩ := h
  exact Kd.S_ne ho hb ht
theorem IsS91.lt {w0 W : World} {g : Nat} {f0 : Int} {f1 : Int} {f2 : Int} {f3 : List Int} (h : IsS91 w0 W g f0 f1 f2 f3) : g < W.heap.size := by
  obtain ⟨A3, c3, hb, hg, hr3⟩ := h
  exact blk_lt hb
theorem IsS91.ge {w0 W : World} {g : Nat} {f0 : Int} {f1 : Int} {f2 : Int} {f3 : List Int} (h : IsS91 w0 W g f0 f1 f2 f3) : w0.heap.size ≤ g := by
  obtain ⟨A3, c3, hb, hg, hr3⟩ := h
  exact hg
theorem IsS91.ne_blk {w0 W : World} {g : Nat} {f0 : Int} {f1 : Int} {f2 : Int} {f3 : List Int} {a : Nat} {cs : Array Value} {t : TypeId} {fr : Nat × Nat} (h : IsS91 w0 W g f0 f1 f2 f3) (hb2 : W.heap[a]? = some (.cells cs t fr)) (ht : t ≠ 91) : g ≠ a := by
  obtain ⟨A3, c3, hb, hg, hr3⟩ := h
  rintro rfl
  rw [hb] at hb2
  injection hb2 with hb2
  injection hb2 with _ ht2
  exact ht ht2.symm
theorem IsS91.far {w0 W : World} {g : Nat} {f0 : Int} {f1 : Int} {f2 : Int} {f3 : List Int} {p : Addr} (h : IsS91 w0 W g f0 f1 f2 f3) (hne : g ≠ p.block) (u : Value) : IsS91 w0 (W.setCell p u) g f0 f1 f2 f3 := by
  obtain ⟨A3, c3, hb, hg, hr3⟩ := h
  exact ⟨A3, c3, blk_far hb hne u, hg, hr3⟩
theorem cellS91_0 {W : World} {g : Nat} {A3 : Option Addr} {c3 : Nat} {f0 : Int} {f1 : Int} {f2 : Int} {f3 : List Int} (h : W.heap[g]? = some (.cells #[.int .u64 f0, .int .u64 f1, .int .u64 f2, .slice A3 f3.length c3] 91 (0, 0))) : W.cell? ⟨g, 0, none⟩ = some (.int .u64 f0) := (blk_cell h 0).trans rfl
theorem IsS91.set_0 {w0 W : World} {g : Nat} {f0 : Int} {f1 : Int} {f2 : Int} {f3 : List Int} (h : IsS91 w0 W g f0 f1 f2 f3) (x : Int) : IsS91 w0 (W.setCell ⟨g, 0, none⟩ (.int .u64 x)) g x f1 f2 f3 := by
  obtain ⟨A3, c3, hb, hg, hr3⟩ := h
  exact ⟨A3, c3, by simpa using blk_set hb 0 (.int .u64 x), hg, hr3⟩
theorem cellS91_1 {W : World} {g : Nat} {A3 : Option Addr} {c3 : Nat} {f0 : Int} {f1 : Int} {f2 : Int} {f3 : List Int} (h : W.heap[g]? = some (.cells #[.int .u64 f0, .int .u64 f1, .int .u64 f2, .slice A3 f3.length c3] 91 (0, 0))) : W.cell? ⟨g, 1, none⟩ = some (.int .u64 f1) := (blk_cell h 1).trans rfl
theorem IsS91.set_1 {w0 W : World} {g : Nat} {f0 : Int} {f1 : Int} {f2 : Int} {f3 : List Int} (h : IsS91 w0 W g f0 f1 f2 f3) (x : Int) : IsS91 w0 (W.setCell ⟨g, 1, none⟩ (.int .u64 x)) g f0 x f2 f3 := by
  obtain ⟨A3, c3, hb, hg, hr3⟩ := h
  exact ⟨A3, c3, by simpa using blk_set hb 1 (.int .u64 x), hg, hr3⟩
theorem cellS91_2 {W : World} {g : Nat} {A3 : Option Addr} {c3 : Nat} {f0 : Int} {f1 : Int} {f2 : Int} {f3 : List Int} (h : W.heap[g]? = some (.cells #[.int .u64 f0, .int .u64 f1, .int .u64 f2, .slice A3 f3.length c3] 91 (0, 0))) : W.cell? ⟨g, 2, none⟩ = some (.int .u64 f2) := (blk_cell h 2).trans rfl
theorem IsS91.set_2 {w0 W : World} {g : Nat} {f0 : Int} {f1 : Int} {f2 : Int} {f3 : List Int} (h : IsS91 w0 W g f0 f1 f2 f3) (x : Int) : IsS91 w0 (W.setCell ⟨g, 2, none⟩ (.int .u64 x)) g f0 f1 x f3 := by
  obtain ⟨A3, c3, hb, hg, hr3⟩ := h
  exact ⟨A3, c3, by simpa using blk_set hb 2 (.int .u64 x), hg, hr3⟩
theorem cellS91_3 {W : World} {g : Nat} {A3 : Option Addr} {c3 : Nat} {f0 : Int} {f1 : Int} {f2 : Int} {f3 : List Int} (h : W.heap[g]? = some (.cells #[.int .u64 f0, .int .u64 f1, .int .u64 f2, .slice A3 f3.length c3] 91 (0, 0))) : W.cell? ⟨g, 3, none⟩ = some (.slice A3 f3.length c3) := (blk_cell h 3).trans rfl
theorem IsS91.new (w0 W : World) (A3 : Option Addr) (c3 : Nat) (f0 : Int) (f1 : Int) (f2 : Int) (f3 : List Int) (hB : Below w0.heap.size w0 W) (hr3 : Kd.C (Kd.int .u8) w0 A3 f3.length f3) : IsS91 w0 (W.alloc (.cells #[.int .u64 f0, .int .u64 f1, .int .u64 f2, .slice A3 f3.length c3] 91)) W.heap.size f0 f1 f2 f3 := ⟨A3, c3, by simpa using heap_alloc_new W _, hB.size, hr3⟩

/-! ### frame_Read: function 72 -/
def rdSt (w : World) (R : Nat) (A : Option Addr) (n c : Nat) (e : Int) : Prop := w.heap[R]? = some (.cells #[.slice A n c, .int .i64 e] 137 (0, 0))
set_option maxHeartbeats 800000 in
set_option maxRecDepth 100000 in
theorem rd.take_no (w : World) (R : Nat) (A : Option Addr) (n c : Nat) (e m : Int) (hs : rdSt w R A n c e) (he : e ≠ 0) :
    Calls Try.prog 104 #[.pointer (some ⟨R, 0, none⟩), .int .i64 m] w fun x w' => x = .returned (.slice none 0 0) ∧ w' = w := by
  have hc0 : w.cell? ⟨R, 0, none⟩ = some (.slice A n c) := (blk_cell hs 0).trans rfl
  have hc1 : w.cell? ⟨R, 1, none⟩ = some (.int .i64 e) := (blk_cell hs 1).trans rfl
  have hb0 : (e == 0) = false := beq_eq_false_iff_ne.mpr he
  have hb1 : (e != 0) = true := bne_iff_ne.mpr he
  clear hs he
  go_enter Try.func104, Try.ntmps104
  go_wp2
  go_ret
  exact ⟨rfl, rfl⟩
set_option maxHeartbeats 800000 in
set_option maxRecDepth 100000 in
theorem rd.take_short (w : World) (R : Nat) (A : Option Addr) (n c : Nat) (m : Int) (hs : rdSt w R A n c 0) (hm : (n : Int) < m) :
    Calls Try.prog 104 #[.pointer (some ⟨R, 0, none⟩), .int .i64 m] w fun x w' => x = .returned (.slice none 0 0) ∧ w' = w.setCell ⟨R, 1, none⟩ (.int .i64 2) := by
  have hc0 : w.cell? ⟨R, 0, none⟩ = some (.slice A n c) := (blk_cell hs 0).trans rfl
  have hc1 : w.cell? ⟨R, 1, none⟩ = some (.int .i64 0) := (blk_cell hs 1).trans rfl
  have hf1 := blk_frozen hs 1
  have hz := blk_lt hs
  have hb0 : decide ((n : Int) < m) = true := decide_eq_true hm
  have hs2 := blk_set hs 1 (.int .i64 2)
  have hc3 : (w.setCell ⟨R, 1, none⟩ (.int .i64 2)).cell? ⟨R, 1, none⟩ = some (.int .i64 2) := (blk_cell hs2 1).trans rfl
  clear hs hs2 hm
  go_enter Try.func104, Try.ntmps104
  go_wp2
  go_ret
  exact ⟨rfl, rfl⟩
set_option maxHeartbeats 800000 in
set_option maxRecDepth 100000 in
theorem rd.take_ok (w : World) (R : Nat) (A : Option Addr) (n c : Nat) (m : Int) (hs : rdSt w R A n c 0) (hm : m ≤ (n : Int)) (h0 : 0 ≤ m) (hnc : n ≤ c) :
    Calls Try.prog 104 #[.pointer (some ⟨R, 0, none⟩), .int .i64 m] w fun x w' => x = .returned (.slice A m.toNat c) ∧ w' = w.setCell ⟨R, 0, none⟩ (.slice (if c = m.toNat then A else A.map (·.add (m.toNat * 1))) (n - m.toNat) (c - m.toNat)) := by
  have hc0 : w.cell? ⟨R, 0, none⟩ = some (.slice A n c) := (blk_cell hs 0).trans rfl
  have hc1 : w.cell? ⟨R, 1, none⟩ = some (.int .i64 0) := (blk_cell hs 1).trans rfl
  have hf0 := blk_frozen hs 0
  have hz := blk_lt hs
  have hb0 : decide ((n : Int) < m) = false := decide_eq_false (by omega)
  obtain ⟨i0, hi0, _, hsz, _⟩ := info_parts info5
  have hcut1 := cut_to (P := Try.prog) 22 5 .i64 Try.underlying22 hi0 A n c m h0 hm hnc
  have hcut2 := cut_from (P := Try.prog) 22 5 .i64 Try.underlying22 hi0 1 hsz A n c m h0 hm
  obtain ⟨A', hA⟩ : ∃ A', A' = (if c = m.toNat then A else A.map (·.add (m.toNat * 1))) := ⟨_, rfl⟩
  rw [← hA] at hcut2 ⊢
  clear hs hm h0 hA hi0 hsz
  go_enter Try.func104, Try.ntmps104
  go_wp2
  go_ret
  exact ⟨rfl, rfl⟩
structure OnlyAt (R : Nat) (w w' : World) : Prop where mk :: (size : w'.heap.size = w.heap.size) (block : ∀ b : Nat, b ≠ R → w'.heap[b]? = w.heap[b]?)
theorem OnlyAt.refl (R : Nat) (w : World) : OnlyAt R w w := ⟨rfl, fun _ _ => rfl⟩
theorem OnlyAt.set {R : Nat} {w w' : World} (h : OnlyAt R w w') (j : Nat) (v : Value) : OnlyAt R w (w'.setCell ⟨R, j, none⟩ v) :=
  ⟨by rw [← h.size]; simp [World.setCell], fun b hb => (Below.heap_setCell w' ⟨R, j, none⟩ v b hb).trans (h.block b hb)⟩
theorem OnlyAt.drawn {R : Nat} {w w1 w2 : World} (h : OnlyAt R w w1) (hd : Drawn0 w1 w2) : OnlyAt R w w2 := by
  obtain ⟨n, rfl⟩ := hd.out; exact ⟨h.size, h.block⟩
theorem OnlyAt.trans {R : Nat} {w w1 w2 : World} (h : OnlyAt R w w1) (k : OnlyAt R w1 w2) : OnlyAt R w w2 := ⟨k.size.trans h.size, fun b hb => (k.block b hb).trans (h.block b hb)⟩
theorem rdSt.set0 {w : World} {R : Nat} {A : Option Addr} {n c : Nat} {e : Int} (hs : rdSt w R A n c e) (A' : Option Addr) (n' c' : Nat) : rdSt (w.setCell ⟨R, 0, none⟩ (.slice A' n' c')) R A' n' c' e := blk_put hs 0 _ rfl
theorem rdSt.set1 {w : World} {R : Nat} {A : Option Addr} {n c : Nat} {e : Int} (hs : rdSt w R A n c e) (e' : Int) : rdSt (w.setCell ⟨R, 1, none⟩ (.int .i64 e')) R A n c e' := blk_put hs 1 _ rfl
theorem rdSt.drawn {w w' : World} {R : Nat} {A : Option Addr} {n c : Nat} {e : Int} (hs : rdSt w R A n c e) (hd : Drawn0 w w') : rdSt w' R A n c e := by
  obtain ⟨m, rfl⟩ := hd.out; exact hs
theorem rd.take_l (w0 w : World) (R : Nat) (A : Option Addr) (c : Nat) (l : List Int) (m : Int) (j : Nat) (hj : m = (j : Int)) (hs : rdSt w R A l.length c 0) (hm : j ≤ l.length) (hnc : l.length ≤ c) (hr : Kd.C (Kd.int .u8) w0 A l.length l) :
    ∃ A1 c1, (l.drop j).length ≤ c1 ∧ (l.take j).length ≤ c ∧ Kd.C (Kd.int .u8) w0 A1 (l.drop j).length (l.drop j) ∧ Kd.C (Kd.int .u8) w0 A (l.take j).length (l.take j) ∧
      Calls Try.prog 104 #[.pointer (some ⟨R, 0, none⟩), .int .i64 m] w fun x w' => x = .returned (.slice A (l.take j).length c) ∧ w' = w.setCell ⟨R, 0, none⟩ (.slice A1 (l.drop j).length c1) := by
  subst hj
  have h1 : (l.take j).length = j := by rw [List.length_take]; omega
  have h2 : (l.drop j).length = l.length - j := List.length_drop
  refine ⟨_, c - j, by omega, by omega, Kd.C_drop (c := c) hr hm hnc, Kd.C_take hr hm, ?_⟩
  refine (rd.take_ok w R A l.length c j hs (by omega) (by omega) hnc).mono ?_
  rintro x w' ⟨rfl, rfl⟩
  rw [h1, h2, Int.toNat_natCast]
  exact ⟨rfl, rfl⟩
def nm.f (k : Nat) (l : List Int) (e : Int) : Option (Int × List Int × Int) :=
  if e = 0 then
    if l.length < 1 then some (0, l, 2)
    else if 8 < rd l 0 then some (0, l.drop 1, 4)
    else if 0 ≤ wrap64 (rd l 0) then
      if (l.drop 1).length < (wrap64 (rd l 0)).toNat then (word_FromLeast.f k []).bind fun q => some (q.1, l.drop 1, 2)
      else (word_FromLeast.f k ((l.drop 1).take (wrap64 (rd l 0)).toNat)).bind fun q => some (q.1, (l.drop 1).drop (wrap64 (rd l 0)).toNat, q.2)
    else none
  else some (0, l, e)
def nm.Post (R : Nat) (w0 w : World) (v : Int) (l' : List Int) (e' : Int) (x : Ending) (w' : World) : Prop :=
  ∃ (A' : Option Addr) (c' : Nat), x = .returned (.int .u64 v) ∧ rdSt w' R A' l'.length c' e' ∧ l'.length ≤ c' ∧ Kd.C (Kd.int .u8) w0 A' l'.length l' ∧ Below w0.heap.size w0 w' ∧ OnlyAt R w w'
set_option maxHeartbeats 800000 in
set_option maxRecDepth 100000 in
theorem nm.no (w0 w : World) (R : Nat) (A : Option Addr) (c : Nat) (l : List Int) (e : Int) (hs : rdSt w R A l.length c e) (hnc : l.length ≤ c) (hr : Kd.C (Kd.int .u8) w0 A l.length l) (hb : Below w0.heap.size w0 w) (he : e ≠ 0) :
    Calls Try.prog 105 #[.pointer (some ⟨R, 0, none⟩)] w (nm.Post R w0 w 0 l e) := by
  have HP := Aside0.mk (show nm.Post R w0 w 0 l e (.returned (.int .u64 0)) w from ⟨A, c, rfl, hs, hnc, hr, hb, OnlyAt.refl _ _⟩)
  have hc1 : w.cell? ⟨R, 1, none⟩ = some (.int .i64 e) := (blk_cell hs 1).trans rfl
  have hb0 : (e == 0) = false := beq_eq_false_iff_ne.mpr he
  have hb1 : (e != 0) = true := bne_iff_ne.mpr he
  have HT := Aside0.mk (rd.take_no w R A l.length c e 1 hs he)
  clear hs he hr hnc hb
  go_enter Try.func105, Try.ntmps105
  go_wp2_with (go_at_call 104; refine Calls.mono HT.out ?_; rintro x w' ⟨rfl, rfl⟩)
  go_ret
  exact HP.out
set_option maxHeartbeats 800000 in
set_option maxRecDepth 100000 in
theorem nm.empty (w0 w : World) (R : Nat) (A : Option Addr) (c : Nat) (l : List Int) (hs : rdSt w R A l.length c 0) (hnc : l.length ≤ c) (hr : Kd.C (Kd.int .u8) w0 A l.length l) (hb : Below w0.heap.size w0 w) (hR : w0.heap.size ≤ R) (hl : l.length < 1) :
    Calls Try.prog 105 #[.pointer (some ⟨R, 0, none⟩)] w (nm.Post R w0 w 0 l 2) := by
  have HP := Aside0.mk (show nm.Post R w0 w 0 l 2 (.returned (.int .u64 0)) (w.setCell ⟨R, 1, none⟩ (.int .i64 2)) from ⟨A, c, rfl, hs.set1 2, hnc, hr, hb.setCell hR _, (OnlyAt.refl _ _).set _ _⟩)
  have hc1 : (w.setCell ⟨R, 1, none⟩ (.int .i64 2)).cell? ⟨R, 1, none⟩ = some (.int .i64 2) := (blk_cell (hs.set1 2) 1).trans rfl
  have HT := Aside0.mk (rd.take_short w R A l.length c 1 hs (by omega))
  clear hs hr hnc hb hl hR
  go_enter Try.func105, Try.ntmps105
  go_wp2_with (go_at_call 104; refine Calls.mono HT.out ?_; rintro x w' ⟨rfl, rfl⟩)
  go_ret
  exact HP.out
set_option maxHeartbeats 1600000 in
set_option maxRecDepth 100000 in
theorem nm.long (w0 w : World) (R : Nat) (A : Option Addr) (c : Nat) (l : List Int) (hs : rdSt w R A l.length c 0) (hnc : l.length ≤ c) (hr : Kd.C (Kd.int .u8) w0 A l.length l) (hb : Below w0.heap.size w0 w) (hR : w0.heap.size ≤ R) (hl : 1 ≤ l.length) (h8 : 8 < rd l 0) :
    Calls Try.prog 105 #[.pointer (some ⟨R, 0, none⟩)] w (nm.Post R w0 w 0 (l.drop 1) 4) := by
  obtain ⟨A1, c1, h1, h2, h3, h4, hT⟩ := rd.take_l w0 w R A c l 1 1 rfl hs hl hnc hr
  obtain ⟨l1, hl1⟩ : ∃ l1, l1 = l.drop 1 := ⟨_, rfl⟩
  rw [← hl1] at h1 h3 hT ⊢
  clear hl1
  have hs1 := hs.set0 A1 l1.length c1
  have hb1 : Below w0.heap.size w0 (w.setCell ⟨R, 0, none⟩ (.slice A1 l1.length c1)) := hb.setCell hR _
  have HP := Aside0.mk (show nm.Post R w0 w 0 l1 4 (.returned (.int .u64 0)) ((w.setCell ⟨R, 0, none⟩ (.slice A1 l1.length c1)).setCell ⟨R, 1, none⟩ (.int .i64 4)) from ⟨A1, c1, rfl, hs1.set1 4, h1, h3, hb1.setCell hR _, ((OnlyAt.refl _ _).set _ _).set _ _⟩)
  have hc1 : (w.setCell ⟨R, 0, none⟩ (.slice A1 l1.length c1)).cell? ⟨R, 1, none⟩ = some (.int .i64 0) := (blk_cell hs1 1).trans rfl
  have hf1 := blk_frozen hs1 1
  have hz := blk_lt hs1
  have hc4 : ((w.setCell ⟨R, 0, none⟩ (.slice A1 l1.length c1)).setCell ⟨R, 1, none⟩ (.int .i64 4)).cell? ⟨R, 1, none⟩ = some (.int .i64 4) := (blk_cell (hs1.set1 4) 1).trans rfl
  obtain ⟨ad, rfl, hx⟩ := Kd.at_int (Kd.C_below hr hb1) 0 (by omega) (by omega)
  rw [show (0 : Int).toNat = 0 from rfl, Addr.add_zero'] at hx
  have b8 : decide (8 < rd l 0) = true := decide_eq_true h8
  have ht : (l.take 1).length = 1 := by rw [List.length_take]; omega
  rw [ht] at hT
  have HT := Aside0.mk hT
  clear hs hr hnc hb hl hR hT hs1 hb1 h1 h2 h3 h4 h8 ht
  go_enter Try.func105, Try.ntmps105
  go_wp2_with (go_at_call 104; refine Calls.mono HT.out ?_; rintro x w' ⟨rfl, rfl⟩)
  go_ret
  exact HP.out
set_option maxHeartbeats 1600000 in
set_option maxRecDepth 100000 in
theorem nm.short (k : Nat) (w0 w : World) (R : Nat) (A : Option Addr) (c : Nat) (l : List Int) (hs : rdSt w R A l.length c 0) (hnc : l.length ≤ c) (hr : Kd.C (Kd.int .u8) w0 A l.length l) (hb : Below w0.heap.size w0 w) (hR : w0.heap.size ≤ R) (hl : 1 ≤ l.length) (h8 : ¬ 8 < rd l 0)
    (hm : ((l.drop 1).length : Int) < wrap64 (rd l 0)) (v e2 : Int) (hv : word_FromLeast.f k [] = some (v, e2)) :
    Calls Try.prog 105 #[.pointer (some ⟨R, 0, none⟩)] w (nm.Post R w0 w v (l.drop 1) 2) := by
  obtain ⟨A1, c1, h1, h2, h3, h4, hT⟩ := rd.take_l w0 w R A c l 1 1 rfl hs hl hnc hr
  obtain ⟨l1, hl1⟩ : ∃ l1, l1 = l.drop 1 := ⟨_, rfl⟩
  rw [← hl1] at h1 h3 hT hm ⊢
  clear hl1
  have hs1 := hs.set0 A1 l1.length c1
  have hb1 : Below w0.heap.size w0 (w.setCell ⟨R, 0, none⟩ (.slice A1 l1.length c1)) := hb.setCell hR _
  obtain ⟨w1, hw1⟩ : ∃ w1, w1 = w.setCell ⟨R, 0, none⟩ (.slice A1 l1.length c1) := ⟨_, rfl⟩
  have ho1 : OnlyAt R w w1 := hw1 ▸ (OnlyAt.refl _ _).set _ _
  rw [← hw1] at hs1 hb1 hT
  have hs2 := hs1.set1 2
  have hb2 : Below w0.heap.size w0 (w1.setCell ⟨R, 1, none⟩ (.int .i64 2)) := hb1.setCell hR _
  have ho2 := ho1.set 1 (.int .i64 2)
  have hT2 := rd.take_short w1 R A1 l1.length c1 _ hs1 hm
  obtain ⟨w2, hw2⟩ : ∃ w2, w2 = w1.setCell ⟨R, 1, none⟩ (.int .i64 2) := ⟨_, rfl⟩
  rw [← hw2] at hs2 hb2 ho2 hT2
  have hF := word_FromLeast.calls k none 0 [] v e2 w2 (Kd.R_reads' (Kd.R_nil (Kd.int .u8) 5 w2 0 (fun _ => True))).2.2 (Nat.le_refl _) hv
  have HP : Aside0 (∀ w3, Drawn0 w2 w3 → nm.Post R w0 w v l1 2 (.returned (.int .u64 v)) w3) := ⟨fun w3 hd => ⟨A1, c1, rfl, hs2.drawn hd, h1, h3, by obtain ⟨n, rfl⟩ := hd.out; exact pw_below_drewN hb2 n, ho2.drawn hd⟩⟩
  have hc1 : w1.cell? ⟨R, 1, none⟩ = some (.int .i64 0) := (blk_cell hs1 1).trans rfl
  obtain ⟨ad, rfl, hx⟩ := Kd.at_int (Kd.C_below hr hb1) 0 (by omega) (by omega)
  rw [show (0 : Int).toNat = 0 from rfl, Addr.add_zero'] at hx
  have b8 : decide (8 < rd l 0) = false := decide_eq_false h8
  have ht : (l.take 1).length = 1 := by rw [List.length_take]; omega
  rw [ht] at hT
  have HC3 : Aside0 (∀ w3, Drawn0 w2 w3 → w3.cell? ⟨R, 1, none⟩ = some (.int .i64 2)) := ⟨fun w3 hd => (blk_cell (hs2.drawn hd) 1).trans rfl⟩
  have HT := Aside0.mk hT
  have HT2 := Aside0.mk hT2
  have HF := Aside0.mk hF
  have HW1 := Aside0.mk hw1
  have HW2 := Aside0.mk hw2
  clear hs hr hnc hb hl hR hT hs1 hb1 h1 h2 h3 h4 h8 ht hm hs2 hb2 ho1 ho2 hT2 hF hw1 hw2 hv
  go_enter Try.func105, Try.ntmps105
  go_wp2_with (first
    | (go_at_call 104; refine Calls.mono HT.out ?_; rintro x w' ⟨rfl, rfl⟩; clear HT)
    | (go_at_call 104; refine Calls.mono HT2.out ?_; rintro x w' ⟨rfl, rfl⟩; clear HT2)
    | (go_at_call 36; refine Calls.mono HF.out ?_; rintro x w3 ⟨rfl, hd⟩; have hc3 := HC3.out w3 hd; have HD := Aside0.mk hd; clear HF hd))
  go_ret
  exact HP.out _ HD.out
set_option maxHeartbeats 1600000 in
set_option maxRecDepth 100000 in
theorem nm.ok (k : Nat) (w0 w : World) (R : Nat) (A : Option Addr) (c : Nat) (l : List Int) (hs : rdSt w R A l.length c 0) (hnc : l.length ≤ c) (hr : Kd.C (Kd.int .u8) w0 A l.length l) (hb : Below w0.heap.size w0 w) (hR : w0.heap.size ≤ R) (hl : 1 ≤ l.length) (h8 : ¬ 8 < rd l 0)
    (m : Nat) (hm0 : wrap64 (rd l 0) = (m : Int)) (hm : m ≤ (l.drop 1).length) (v e2 : Int) (hv : word_FromLeast.f k ((l.drop 1).take m) = some (v, e2)) :
    Calls Try.prog 105 #[.pointer (some ⟨R, 0, none⟩)] w (nm.Post R w0 w v ((l.drop 1).drop m) e2) := by
  obtain ⟨A1, c1, h1, h2, h3, h4, hT⟩ := rd.take_l w0 w R A c l 1 1 rfl hs hl hnc hr
  obtain ⟨l1, hl1⟩ : ∃ l1, l1 = l.drop 1 := ⟨_, rfl⟩
  rw [← hl1] at h1 h3 hT hm hv ⊢
  clear hl1
  have hs1 := hs.set0 A1 l1.length c1
  have hb1 : Below w0.heap.size w0 (w.setCell ⟨R, 0, none⟩ (.slice A1 l1.length c1)) := hb.setCell hR _
  obtain ⟨w1, hw1⟩ : ∃ w1, w1 = w.setCell ⟨R, 0, none⟩ (.slice A1 l1.length c1) := ⟨_, rfl⟩
  have ho1 : OnlyAt R w w1 := hw1 ▸ (OnlyAt.refl _ _).set _ _
  rw [← hw1] at hs1 hb1 hT
  obtain ⟨A2, c2, g1, g2, g3, g4, hT2⟩ := rd.take_l w0 w1 R A1 c1 l1 (wrap64 (rd l 0)) m hm0 hs1 hm h1 h3
  obtain ⟨l2, hl2⟩ : ∃ l2, l2 = l1.drop m := ⟨_, rfl⟩
  obtain ⟨x2, hx2⟩ : ∃ x2, x2 = l1.take m := ⟨_, rfl⟩
  rw [← hl2] at g1 g3 hT2 ⊢
  rw [← hx2] at g2 g4 hT2 hv
  clear hl2 hx2
  have hs2 := hs1.set0 A2 l2.length c2
  have hb2 : Below w0.heap.size w0 (w1.setCell ⟨R, 0, none⟩ (.slice A2 l2.length c2)) := hb1.setCell hR _
  have ho2 := ho1.set 0 (.slice A2 l2.length c2)
  obtain ⟨w2, hw2⟩ : ∃ w2, w2 = w1.setCell ⟨R, 0, none⟩ (.slice A2 l2.length c2) := ⟨_, rfl⟩
  rw [← hw2] at hs2 hb2 ho2 hT2
  have hF := word_FromLeast.calls k A1 c1 x2 v e2 w2 (Kd.C_below g4 hb2) g2 hv
  have HP : Aside0 (∀ w3, Drawn0 w2 w3 → nm.Post R w0 w v l2 e2 (.returned (.int .u64 v)) (w3.setCell ⟨R, 1, none⟩ (.int .i64 e2))) :=
    ⟨fun w3 hd => ⟨A2, c2, rfl, (hs2.drawn hd).set1 e2, g1, g3, Below.setCell (by obtain ⟨n, rfl⟩ := hd.out; exact pw_below_drewN hb2 n) hR _, (ho2.drawn hd).set _ _⟩⟩
  have hc1 : w1.cell? ⟨R, 1, none⟩ = some (.int .i64 0) := (blk_cell hs1 1).trans rfl
  obtain ⟨ad, rfl, hx⟩ := Kd.at_int (Kd.C_below hr hb1) 0 (by omega) (by omega)
  rw [show (0 : Int).toNat = 0 from rfl, Addr.add_zero'] at hx
  have b8 : decide (8 < rd l 0) = false := decide_eq_false h8
  have ht : (l.take 1).length = 1 := by rw [List.length_take]; omega
  rw [ht] at hT
  have HC3 : Aside0 (∀ w3, Drawn0 w2 w3 → w3.cell? ⟨R, 1, none⟩ = some (.int .i64 0) ∧ w3.frozen? ⟨R, 1, none⟩ = false ∧ R < w3.heap.size) := ⟨fun w3 hd => ⟨(blk_cell (hs2.drawn hd) 1).trans rfl, blk_frozen (hs2.drawn hd) 1, blk_lt (hs2.drawn hd)⟩⟩
  have HT := Aside0.mk hT
  have HT2 := Aside0.mk hT2
  have HF := Aside0.mk hF
  have HW1 := Aside0.mk hw1
  have HW2 := Aside0.mk hw2
  clear hs hr hnc hb hl hR hT hs1 hb1 h1 h2 h3 h4 h8 ht hm hs2 hb2 ho1 ho2 hT2 hF hw1 hw2 hv g1 g2 g3 g4 hm0
  go_enter Try.func105, Try.ntmps105
  go_wp2_with (first
    | (go_at_call 104; refine Calls.mono HT.out ?_; rintro x w' ⟨rfl, rfl⟩; clear HT)
    | (go_at_call 104; refine Calls.mono HT2.out ?_; rintro x w' ⟨rfl, rfl⟩; clear HT2)
    | (go_at_call 36; refine Calls.mono HF.out ?_; rintro x w3 ⟨rfl, hd⟩; obtain ⟨hc3, hf3, hz3⟩ := HC3.out w3 hd; have HD := Aside0.mk hd; clear HF hd))
  go_ret
  exact HP.out _ HD.out
/-- A number that is next. -/
theorem nm.mono (k : Nat) (l : List Int) (e : Int) : LeO (nm.f k l e) (nm.f (k + 1) l e) := by
  unfold nm.f
  exact LeO.ite (LeO.ite (LeO.refl _) (LeO.ite (LeO.refl _) (LeO.ite (LeO.ite (LeO.bind (word_FromLeast.mono _ k) (fun _ => LeO.refl _)) (LeO.bind (word_FromLeast.mono _ k) (fun _ => LeO.refl _))) (LeO.refl _)))) (LeO.refl _)
theorem nm.call (k : Nat) (w0 w : World) (R : Nat) (A : Option Addr) (c : Nat) (l : List Int) (e : Int) (v : Int) (l' : List Int) (e' : Int) (hs : rdSt w R A l.length c e) (hnc : l.length ≤ c) (hr : Kd.C (Kd.int .u8) w0 A l.length l) (hb : Below w0.heap.size w0 w) (hR : w0.heap.size ≤ R) (h : nm.f k l e = some (v, l', e')) :
    Calls Try.prog 105 #[.pointer (some ⟨R, 0, none⟩)] w (nm.Post R w0 w v l' e') := by
  unfold nm.f at h
  by_cases he : e = 0
  · subst he
    rw [if_pos rfl] at h
    by_cases hl : l.length < 1
    · rw [if_pos hl] at h
      simp only [Option.some.injEq, Prod.mk.injEq] at h
      obtain ⟨rfl, rfl, rfl⟩ := h
      exact nm.empty w0 w R A c l hs hnc hr hb hR hl
    · rw [if_neg hl] at h
      by_cases h8 : 8 < rd l 0
      · rw [if_pos h8] at h
        simp only [Option.some.injEq, Prod.mk.injEq] at h
        obtain ⟨rfl, rfl, rfl⟩ := h
        exact nm.long w0 w R A c l hs hnc hr hb hR (by omega) h8
      · rw [if_neg h8] at h
        by_cases h0 : 0 ≤ wrap64 (rd l 0)
        · rw [if_pos h0] at h
          by_cases hm : (l.drop 1).length < (wrap64 (rd l 0)).toNat
          · rw [if_pos hm] at h
            obtain ⟨q, hq, h⟩ := Option.bind_eq_some_iff.1 h
            simp only [Option.some.injEq, Prod.mk.injEq] at h
            obtain ⟨rfl, rfl, rfl⟩ := h
            exact nm.short k w0 w R A c l hs hnc hr hb hR (by omega) h8 (by omega) q.1 q.2 hq
          · rw [if_neg hm] at h
            obtain ⟨q, hq, h⟩ := Option.bind_eq_some_iff.1 h
            simp only [Option.some.injEq, Prod.mk.injEq] at h
            obtain ⟨rfl, rfl, rfl⟩ := h
            exact nm.ok k w0 w R A c l hs hnc hr hb hR (by omega) h8 _ (by omega) (by omega) q.1 q.2 hq
        · rw [if_neg h0] at h; cases h
  · rw [if_neg he] at h
    simp only [Option.some.injEq, Prod.mk.injEq] at h
    obtain ⟨rfl, rfl, rfl⟩ := h
    exact nm.no w0 w R A c l e hs hnc hr hb he
theorem alloc_size1 (w : World) (o : Obj) : (w.alloc o).heap.size = w.heap.size + 1 := by simp
theorem two (w : World) (o1 o2 : Obj) : ((w.alloc o1).alloc o2).heap[w.heap.size]? = some o1 ∧ ((w.alloc o1).alloc o2).heap[w.heap.size + 1]? = some o2 ∧ Below w.heap.size w ((w.alloc o1).alloc o2) ∧ ((w.alloc o1).alloc o2).heap.size = w.heap.size + 2 := by
  have e1 := alloc_size1 w o1
  have e2 := alloc_size1 (w.alloc o1) o2
  refine ⟨blk_alloc (blk_new w o1) _, ?_, (((Below.refl _ _).alloc (Nat.le_refl _) o1).alloc (by omega) o2), by omega⟩
  have := blk_new (w.alloc o1) o2
  rwa [e1] at this
def frame_Read.f (k : Nat) (b : List Int) : Option (Int × Int × Int × List Int × Int) :=
  (nm.f k (if b.length < 1 then b else b.drop 1) (if b.length < 1 then 2 else if rd b 0 = 87 then 0 else 3)).bind fun q1 => (nm.f k q1.2.1 q1.2.2).bind fun q2 => (nm.f k q2.2.1 q2.2.2).bind fun q3 =>
    if q3.2.2 = 0 then
      if q3.2.1.length < 8 then some (0, 0, 0, [], 2)
      else if 0 < (q3.2.1.drop 8).length then some (0, 0, 0, [], 4)
      else some (q1.1, q2.1, q3.1, q3.2.1.take 8, 0)
    else some (0, 0, 0, [], q3.2.2)
def fr.Z : Obj := .cells #[.int .u64 0, .int .u64 0, .int .u64 0, .slice none 0 0] 91
theorem fr.set4 {w : World} {g : Nat} {cs : Array Value} {t : TypeId} {a b c d : Value} (h : w.heap[g]? = some (.cells cs t (0, 0))) (hc : cs.size = 4) :
    ((((w.setCell ⟨g, 0, none⟩ a).setCell ⟨g, 1, none⟩ b).setCell ⟨g, 2, none⟩ c).setCell ⟨g, 3, none⟩ d).heap[g]? = some (.cells #[a, b, c, d] t (0, 0)) := by
  have h2 := blk_set (blk_set (blk_set (blk_set h 0 a) 1 b) 2 c) 3 d
  obtain ⟨l⟩ := cs
  match l, hc with
  | [x0, x1, x2, x3], _ => exact h2
/-- What stands between two reads: the reader's block, and the result's. -/
def fr.Mid (w wc : World) (l1 : List Int) (e1 : Int) : Prop :=
  ∃ (A1 : Option Addr) (c1 : Nat), rdSt wc (w.heap.size + 1) A1 l1.length c1 e1 ∧ l1.length ≤ c1 ∧ Kd.C (Kd.int .u8) w A1 l1.length l1 ∧ Below w.heap.size w wc ∧ wc.heap[w.heap.size]? = some (.cells #[.int .u64 0, .int .u64 0, .int .u64 0, .slice none 0 0] 91) ∧ wc.heap.size = w.heap.size + 2
theorem fr.Mid.of {w wc w' : World} {l1 : List Int} {A1 : Option Addr} {c1 : Nat} {e1 : Int} (hs : rdSt w' (w.heap.size + 1) A1 l1.length c1 e1) (hc : l1.length ≤ c1) (hr : Kd.C (Kd.int .u8) w A1 l1.length l1) (hb : Below w.heap.size w w') (ho : OnlyAt (w.heap.size + 1) wc w')
    (hz : wc.heap[w.heap.size]? = some (.cells #[.int .u64 0, .int .u64 0, .int .u64 0, .slice none 0 0] 91)) (hsz : wc.heap.size = w.heap.size + 2) : fr.Mid w w' l1 e1 :=
  ⟨A1, c1, hs, hc, hr, hb, (ho.block _ (by omega)).trans hz, ho.size.trans hsz⟩
/-- What stands behind the numbers: the reader's block, the result's, the payload's. -/
structure fr.St (w W : World) (v1 v2 v3 : Int) (vt : Value) (A : Option Addr) (n c : Nat) (e : Int) : Prop where
  st : rdSt W (w.heap.size + 1) A n c e
  z : W.heap[w.heap.size]? = some (.cells #[.int .u64 0, .int .u64 0, .int .u64 0, .slice none 0 0] 91)
  p : W.heap[w.heap.size + 2]? = some (.cells #[.int .u64 v1, .int .u64 v2, .int .u64 v3, vt] 91)
  b : Below w.heap.size w W
section
variable {w W W' : World} {v1 v2 v3 : Int} {vt : Value} {A : Option Addr} {n c : Nat} {e : Int}
theorem fr.St.below (h : fr.St w W v1 v2 v3 vt A n c e) (hb : Below W.heap.size W W') : fr.St w W' v1 v2 v3 vt A n c e :=
  ⟨blk_below h.st hb, blk_below h.z hb, blk_below h.p hb, below_weaken h.b h.b.size hb⟩
theorem fr.St.set_p (h : fr.St w W v1 v2 v3 vt A n c e) (v : Value) : fr.St w (W.setCell ⟨w.heap.size + 2, 3, none⟩ v) v1 v2 v3 v A n c e :=
  ⟨blk_far h.st (show w.heap.size + 1 ≠ w.heap.size + 2 by omega) v, blk_far h.z (show w.heap.size ≠ w.heap.size + 2 by omega) v, blk_put h.p 3 v rfl, h.b.setCell (show w.heap.size ≤ w.heap.size + 2 by omega) v⟩
theorem fr.St.set_e (h : fr.St w W v1 v2 v3 vt A n c e) (e' : Int) : fr.St w (W.setCell ⟨w.heap.size + 1, 1, none⟩ (.int .i64 e')) v1 v2 v3 vt A n c e' :=
  ⟨h.st.set1 e', blk_far h.z (show w.heap.size ≠ w.heap.size + 1 by omega) _, blk_far h.p (show w.heap.size + 2 ≠ w.heap.size + 1 by omega) _, h.b.setCell (show w.heap.size ≤ w.heap.size + 1 by omega) _⟩
theorem fr.St.set_b (h : fr.St w W v1 v2 v3 vt A n c e) (A' : Option Addr) (n' c' : Nat) : fr.St w (W.setCell ⟨w.heap.size + 1, 0, none⟩ (.slice A' n' c')) v1 v2 v3 vt A' n' c' e :=
  ⟨h.st.set0 A' n' c', blk_far h.z (show w.heap.size ≠ w.heap.size + 1 by omega) _, blk_far h.p (show w.heap.size + 2 ≠ w.heap.size + 1 by omega) _, h.b.setCell (show w.heap.size ≤ w.heap.size + 1 by omega) _⟩
end
theorem fr.Mid.st {w w3 : World} {l : List Int} {e : Int} (h : fr.Mid w w3 l e) (v1 v2 v3 : Int) : w3.heap.size = w.heap.size + 2 ∧ ∃ (A : Option Addr) (c : Nat), l.length ≤ c ∧ Kd.C (Kd.int .u8) w A l.length l ∧ fr.St w (w3.alloc (.cells #[.int .u64 v1, .int .u64 v2, .int .u64 v3, .slice none 0 0] 91)) v1 v2 v3 (.slice none 0 0) A l.length c e := by
  obtain ⟨A, c, h1, h2, h3, h4, h5, h6⟩ := h
  refine ⟨h6, A, c, h2, h3, blk_alloc h1 _, blk_alloc h5 _, ?_, below_alloc h4 _⟩
  rw [← h6]; exact blk_new _ _
theorem fr.far4 {w W : World} {v : Value} {xs : List Int} {a b c d : Value} (h : Kd.R (Kd.int .u8) 5 W w.heap.size (fun k_ => w.heap.size + 2 < k_) v xs) :
    Kd.R (Kd.int .u8) 5 ((((W.setCell ⟨w.heap.size, 0, none⟩ a).setCell ⟨w.heap.size, 1, none⟩ b).setCell ⟨w.heap.size, 2, none⟩ c).setCell ⟨w.heap.size, 3, none⟩ d) w.heap.size (fun k_ => w.heap.size + 2 < k_) v xs := by
  have hk : ∀ k_, (fun k_ => w.heap.size + 2 < k_) k_ → k_ ≠ w.heap.size := fun k_ hk => by have h_ : w.heap.size + 2 < k_ := hk; omega
  exact Kd.R_far (p := ⟨w.heap.size, 3, none⟩) (Kd.R_far (p := ⟨w.heap.size, 2, none⟩) (Kd.R_far (p := ⟨w.heap.size, 1, none⟩) (Kd.R_far (p := ⟨w.heap.size, 0, none⟩) h hk a) hk b) hk c) hk d
theorem fr.bset4 {w W : World} (h : Below w.heap.size w W) (a b c d : Value) : Below w.heap.size w ((((W.setCell ⟨w.heap.size, 0, none⟩ a).setCell ⟨w.heap.size, 1, none⟩ b).setCell ⟨w.heap.size, 2, none⟩ c).setCell ⟨w.heap.size, 3, none⟩ d) :=
  (((h.setCell (show w.heap.size ≤ w.heap.size from Nat.le_refl _) a).setCell (show w.heap.size ≤ w.heap.size from Nat.le_refl _) b).setCell (show w.heap.size ≤ w.heap.size from Nat.le_refl _) c).setCell (show w.heap.size ≤ w.heap.size from Nat.le_refl _) d
theorem fr.take8 (w W4 : World) (v1 v2 v3 : Int) (A4 : Option Addr) (c4 : Nat) (l4 : List Int) (e4 r1 r2 r3 : Int) (r4 : List Int) (r5 : Int) (hst : fr.St w W4 v1 v2 v3 (.slice none 0 0) A4 l4.length c4 e4) (hc : l4.length ≤ c4) (hr : Kd.C (Kd.int .u8) w A4 l4.length l4)
    (h : (if e4 = 0 then if l4.length < 8 then some (0, 0, 0, [], 2) else if 0 < (l4.drop 8).length then some (0, 0, 0, [], 4) else some (v1, v2, v3, l4.take 8, 0) else some (0, 0, 0, [], e4)) = some (r1, r2, r3, r4, r5)) :
    ∃ (Ax : Option Addr) (cx : Nat) (xs : List Int) (A5 : Option Addr) (n5 c5 : Nat) (e5 : Int), xs.length ≤ cx ∧ xs.length < 140737488355328 ∧ Kd.C (Kd.int .u8) w Ax xs.length xs ∧
      Calls Try.prog 104 #[.pointer (some ⟨w.heap.size + 1, 0, none⟩), .int .i64 8] W4 (fun x w' => x = .returned (.slice Ax xs.length cx) ∧ fr.St w w' v1 v2 v3 (.slice none 0 0) A5 n5 c5 e5) ∧
      ((e5 ≠ 0 ∧ (r1, r2, r3, r4, r5) = (0, 0, 0, [], e5)) ∨ (e5 = 0 ∧ 0 < n5 ∧ (r1, r2, r3, r4, r5) = (0, 0, 0, [], 4)) ∨ (e5 = 0 ∧ n5 = 0 ∧ (r1, r2, r3, r4, r5) = (v1, v2, v3, xs, 0))) := by
  have hnil : Kd.C (Kd.int .u8) w none ([] : List Int).length [] := (Kd.R_reads' (Kd.R_nil (Kd.int .u8) 5 w 0 (fun _ => True))).2.2
  by_cases he : e4 = 0
  · subst he
    rw [if_pos rfl] at h
    by_cases hl : l4.length < 8
    · rw [if_pos hl] at h
      refine ⟨none, 0, [], A4, l4.length, c4, 2, Nat.le_refl _, by decide, hnil, (rd.take_short W4 _ A4 l4.length c4 8 hst.st (by omega)).mono ?_, .inl ⟨by decide, (Option.some.inj h).symm⟩⟩
      rintro x w' ⟨rfl, rfl⟩
      exact ⟨rfl, hst.set_e 2⟩
    · rw [if_neg hl] at h
      obtain ⟨A5, c5, g1, g2, g3, g4, hT⟩ := rd.take_l w W4 (w.heap.size + 1) A4 c4 l4 8 8 rfl hst.st (by omega) hc hr
      refine ⟨A4, c4, l4.take 8, A5, (l4.drop 8).length, c5, 0, g2, by rw [List.length_take]; omega, g4, hT.mono ?_, ?_⟩
      · rintro x w' ⟨rfl, rfl⟩
        exact ⟨rfl, hst.set_b _ _ _⟩
      · by_cases hm : 0 < (l4.drop 8).length
        · rw [if_pos hm] at h; exact .inr (.inl ⟨rfl, hm, (Option.some.inj h).symm⟩)
        · rw [if_neg hm] at h; exact .inr (.inr ⟨rfl, by omega, (Option.some.inj h).symm⟩)
  · rw [if_neg he] at h
    refine ⟨none, 0, [], A4, l4.length, c4, e4, Nat.le_refl _, by decide, hnil, (rd.take_no W4 _ A4 l4.length c4 e4 8 hst.st he).mono ?_, .inl ⟨he, (Option.some.inj h).symm⟩⟩
    rintro x w' ⟨rfl, rfl⟩
    exact ⟨rfl, hst⟩
theorem frame_Read.mono : ∀ l0 k, LeO (frame_Read.f k l0) (frame_Read.f (k + 1) l0) := by
  intro l0 k
  unfold frame_Read.f
  exact LeO.bind (nm.mono k _ _) (fun _ => LeO.bind (nm.mono k _ _) (fun _ => LeO.bind (nm.mono k _ _) (fun _ => LeO.refl _)))
set_option maxHeartbeats 3200000 in
set_option maxRecDepth 100000 in
theorem frame_Read.calls (k : Nat) (A0 : Option Addr) (c0 : Nat) (l0 : List Int) (r1 r2 r3 : Int) (r4 : List Int) (r5 : Int) (w : World) (hr0 : Kd.C (Kd.int .u8) w A0 l0.length l0) (hc0 : l0.length ≤ c0) (h : frame_Read.f k l0 = some (r1, r2, r3, r4, r5)) :
    Calls Try.prog 72 #[.slice A0 l0.length c0] w fun e w' => ∃ v3_ : Value, e = .returned (.tuple #[.agg #[.int .u64 r1, .int .u64 r2, .int .u64 r3, v3_], .int .i64 r5]) ∧ Kd.R (Kd.int .u8) 5 w' w.heap.size (fun _ => True) v3_ r4 ∧ Below w.heap.size w w' := by
  unfold frame_Read.f at h
  replace h := Option.bind_eq_some_iff.1 h
  obtain ⟨⟨v1, l2, e2⟩, h1, h⟩ := h
  replace h := Option.bind_eq_some_iff.1 h
  obtain ⟨⟨v2, l3, e3⟩, h2, h⟩ := h
  replace h := Option.bind_eq_some_iff.1 h
  obtain ⟨⟨v3, l4, e4⟩, h3, h⟩ := h
  dsimp only at h h1 h2 h3
  obtain ⟨b0, b1, bb, bs⟩ := two w fr.Z (.cells #[.slice A0 l0.length c0, .int .i64 0] 137)
  unfold fr.Z at b0 b1 bb bs
  have hs0 : rdSt ((w.alloc (.cells #[.int .u64 0, .int .u64 0, .int .u64 0, .slice none 0 0] 91)).alloc (.cells #[.slice A0 l0.length c0, .int .i64 0] 137)) (w.heap.size + 1) A0 l0.length c0 0 := b1
  have HH := Aside0.mk h
  have H1 := Aside0.mk h1
  have H2 := Aside0.mk h2
  have H3 := Aside0.mk h3
  have HB0 := Aside0.mk b0
  have HBB := Aside0.mk bb
  have HBS := Aside0.mk bs
  have HS0 := Aside0.mk hs0
  have HR0 := Aside0.mk hr0
  have HC0 := Aside0.mk hc0
  clear h h1 h2 h3 b0 b1 bb bs hs0 hr0 hc0
  go_enter Try.func72, Try.ntmps72
  go_upto_region 2 with fail
  generalize ((w.alloc (.cells #[.int .u64 0, .int .u64 0, .int .u64 0, .slice none 0 0] 91)).alloc (.cells #[.slice A0 l0.length c0, .int .i64 0] 137)) = W2 at HS0 HBB HB0 HBS ⊢
  by_cases hl : l0.length < 1
  case' pos =>
    have HT := Aside0.mk (rd.take_short _ (w.heap.size + 1) A0 l0.length c0 1 HS0.out (by omega))
    have hs2 := HS0.out.set1 2
    have hc1 := (blk_cell hs2 1).trans rfl
    have HM0 := fr.Mid.of hs2 HC0.out HR0.out (HBB.out.setCell (by simp) _) ((OnlyAt.refl _ _).set 1 (.int .i64 2)) HB0.out HBS.out
    have HM : Aside0 (fr.Mid w _ (if l0.length < 1 then l0 else l0.drop 1) (if l0.length < 1 then 2 else if rd l0 0 = 87 then 0 else 3)) := ⟨by rw [if_pos hl, if_pos hl]; exact HM0⟩
    clear hs2 hl HM0 HB0 HBB HBS HS0
    go_upto_region 5 with (go_at_call 104; refine Calls.mono HT.out ?_; rintro x w' ⟨rfl, rfl⟩)
    clear HT hc1
  case' neg =>
    obtain ⟨A1, c1, g1, g2, g3, g4, hT⟩ := rd.take_l w W2 (w.heap.size + 1) A0 c0 l0 1 1 rfl HS0.out (by omega) HC0.out HR0.out
    obtain ⟨l1, hl1⟩ : ∃ l1, l1 = l0.drop 1 := ⟨_, rfl⟩
    have ht : (l0.take 1).length = 1 := by rw [List.length_take]; omega
    rw [← hl1] at g1 g3 hT
    rw [ht] at hT
    have hs1 := HS0.out.set0 A1 l1.length c1
    have hb1 := HBB.out.setCell (show w.heap.size ≤ (⟨w.heap.size + 1, 0, none⟩ : Addr).block by simp) (.slice A1 l1.length c1)
    have ho1 := (OnlyAt.refl (w.heap.size + 1) W2).set 0 (.slice A1 l1.length c1)
    obtain ⟨ad, rfl, hx⟩ := Kd.at_int (Kd.C_below HR0.out hb1) 0 (by omega) (by omega)
    rw [show (0 : Int).toNat = 0 from rfl, Addr.add_zero'] at hx
    generalize W2.setCell ⟨w.heap.size + 1, 0, none⟩ (.slice A1 l1.length c1) = W3 at hs1 hb1 ho1 hT hx
    have hc1 : W3.cell? ⟨w.heap.size + 1, 1, none⟩ = some (.int .i64 0) := (blk_cell hs1 1).trans rfl
    have hf1 := blk_frozen hs1 1
    have hz := blk_lt hs1
    have HT := Aside0.mk hT
    by_cases hW : rd l0 0 = 87
    case' pos =>
      have b87 : (rd l0 0 != 87) = false := bne_eq_false_iff_eq.mpr hW
      have HM0 := fr.Mid.of hs1 g1 g3 hb1 ho1 HB0.out HBS.out
      have HM : Aside0 (fr.Mid w _ (if l0.length < 1 then l0 else l0.drop 1) (if l0.length < 1 then 2 else if rd l0 0 = 87 then 0 else 3)) := ⟨by rw [if_neg hl, if_neg hl, if_pos hW, ← hl1]; exact HM0⟩
      clear hs1 hb1 ho1 hT hl1 hl ht g1 g2 g3 g4 hW HM0 HB0 HBB HBS HS0
      go_upto_region 5 with (go_at_call 104; refine Calls.mono HT.out ?_; rintro x w' ⟨rfl, rfl⟩)
      clear HT hc1 hf1 hz b87 hx
    case' neg =>
      have b87 : (rd l0 0 != 87) = true := bne_iff_ne.mpr hW
      have HM0 := fr.Mid.of (hs1.set1 3) g1 g3 (hb1.setCell (show w.heap.size ≤ (⟨w.heap.size + 1, 1, none⟩ : Addr).block by simp) (.int .i64 3)) (ho1.set 1 (.int .i64 3)) HB0.out HBS.out
      have HM : Aside0 (fr.Mid w _ (if l0.length < 1 then l0 else l0.drop 1) (if l0.length < 1 then 2 else if rd l0 0 = 87 then 0 else 3)) := ⟨by rw [if_neg hl, if_neg hl, if_neg hW, ← hl1]; exact HM0⟩
      clear hs1 hb1 ho1 hT hl1 hl ht g1 g2 g3 g4 hW HM0 HB0 HBB HBS HS0
      go_upto_region 5 with (go_at_call 104; refine Calls.mono HT.out ?_; rintro x w' ⟨rfl, rfl⟩)
      clear HT hc1 hf1 hz b87 hx
  all_goals
    obtain ⟨B1, c1', hs1, g1, g2, g3, g4, g5⟩ := HM.out
    have HH1 := Aside0.mk (nm.call k w _ (w.heap.size + 1) B1 c1' _ _ v1 l2 e2 hs1 g1 g2 g3 (by omega) H1.out)
    have G4 := Aside0.mk g4
    have G5 := Aside0.mk g5
    clear hs1 g1 g2 g3 g4 g5 HM H1
    go_upto_region 6 with (first
      | (go_at_call 105; refine Calls.mono HH1.out ?_; rintro x w1 ⟨A2, c2, rfl, hs2, g1, g2, g3, ho⟩; have HH2 := Aside0.mk (nm.call k w w1 (w.heap.size + 1) A2 c2 _ _ v2 l3 e3 hs2 g1 g2 g3 (by omega) H2.out); have G4' := Aside0.mk ((ho.block _ (by omega)).trans G4.out); have G5' := Aside0.mk (ho.size.trans G5.out); clear HH1 hs2 g1 g2 g3 ho G4 G5)
      | (go_at_call 105; refine Calls.mono HH2.out ?_; rintro x w2 ⟨A2, c2, rfl, hs2, g1, g2, g3, ho⟩; have HH3 := Aside0.mk (nm.call k w w2 (w.heap.size + 1) A2 c2 _ _ v3 l4 e4 hs2 g1 g2 g3 (by omega) H3.out); have G4 := Aside0.mk ((ho.block _ (by omega)).trans G4'.out); have G5 := Aside0.mk (ho.size.trans G5'.out); clear HH2 hs2 g1 g2 g3 ho G4' G5')
      | (go_at_call 105; refine Calls.mono HH3.out ?_; rintro x w3 ⟨A2, c2, rfl, hs2, g1, g2, g3, ho⟩; have HM := Aside0.mk (fr.Mid.of hs2 g1 g2 g3 ho G4.out G5.out); clear HH3 hs2 g1 g2 g3 ho G4 G5))
    obtain ⟨hsz, A4, c4, k1, k2, hst⟩ := fr.Mid.st HM.out v1 v2 v3
    rw [hsz]
    generalize w3.alloc (.cells #[.int .u64 v1, .int .u64 v2, .int .u64 v3, .slice none 0 0] 91) = W4 at hst ⊢
    clear hsz HM H2 H3
    obtain ⟨Ax, cx, xs, A5, n5, c5, e5, j1, j2, j3, hT, hD⟩ := fr.take8 w W4 v1 v2 v3 A4 c4 l4 e4 r1 r2 r3 r4 r5 hst k1 k2 HH.out
    have HT := Aside0.mk hT
    have HD := Aside0.mk hD
    have J1 := Aside0.mk j1
    have J2 := Aside0.mk j2
    have J3 := Aside0.mk j3
    clear hT hD hst k1 k2 HH j1 j2 j3
    go_upto_region 7 with (first
      | (go_at_call 104; refine Calls.mono HT.out ?_; rintro x w5 ⟨rfl, hs5⟩; have HK := Aside0.mk (slices_Clone_byte_byte.calls Ax cx xs xs w5 (Kd.C_below J3.out hs5.b) J1.out (if_pos J2.out)); have HS5 := Aside0.mk hs5; clear hs5 HT)
      | (go_at_call 90; refine Calls.mono HK.out ?_; rintro x w6 ⟨vt, rfl, ho, hb⟩; obtain ⟨Av, cv, rfl⟩ := Kd.R_slice ho; have hs6 := HS5.out.below hb; have HS6 := Aside0.mk hs6; have HO := Aside0.mk (Kd.R_lower (Kd.R_mono (Kd.R_bound ho) (fun k_ hk => show w.heap.size + 2 < k_ from Nat.lt_of_lt_of_le (blk_lt HS5.out.p) hk.2.1)) HS5.out.b.size); have hc6 := (blk_cell hs6.p 3).trans rfl; have hf6 := blk_frozen hs6.p 3; clear hs6 ho hb HK HS5))
    have hs7 := HS6.out.set_p (.slice Av xs.length cv)
    have HO7 := Aside0.mk (Kd.R_far (p := ⟨w.heap.size + 2, 3, none⟩) HO.out (fun k_ hk => by have h_ : w.heap.size + 2 < k_ := hk; show k_ ≠ w.heap.size + 2; omega) (.slice Av xs.length cv))
    generalize w6.setCell ⟨w.heap.size + 2, 3, none⟩ (.slice Av xs.length cv) = W7 at hs7 HO7 ⊢
    clear hc6 hf6 HS6 HO
    have hb0 : W7.cell? ⟨w.heap.size + 1, 0, none⟩ = some (.slice A5 n5 c5) := (blk_cell hs7.st 0).trans rfl
    have hb1 : W7.cell? ⟨w.heap.size + 1, 1, none⟩ = some (.int .i64 e5) := (blk_cell hs7.st 1).trans rfl
    have hbf := blk_frozen hs7.st 1
    have hz0 : W7.cell? ⟨w.heap.size, 0, none⟩ = some (.int .u64 0) := (blk_cell hs7.z 0).trans rfl
    have hz1 : W7.cell? ⟨w.heap.size, 1, none⟩ = some (.int .u64 0) := (blk_cell hs7.z 1).trans rfl
    have hz2 : W7.cell? ⟨w.heap.size, 2, none⟩ = some (.int .u64 0) := (blk_cell hs7.z 2).trans rfl
    have hz3 : W7.cell? ⟨w.heap.size, 3, none⟩ = some (.slice none 0 0) := (blk_cell hs7.z 3).trans rfl
    have hzf0 := blk_frozen hs7.z 0
    have hzf1 := blk_frozen hs7.z 1
    have hzf2 := blk_frozen hs7.z 2
    have hzf3 := blk_frozen hs7.z 3
    have hp0 : W7.cell? ⟨w.heap.size + 2, 0, none⟩ = some (.int .u64 v1) := (blk_cell hs7.p 0).trans rfl
    have hp1 : W7.cell? ⟨w.heap.size + 2, 1, none⟩ = some (.int .u64 v2) := (blk_cell hs7.p 1).trans rfl
    have hp2 : W7.cell? ⟨w.heap.size + 2, 2, none⟩ = some (.int .u64 v3) := (blk_cell hs7.p 2).trans rfl
    have hp3 : W7.cell? ⟨w.heap.size + 2, 3, none⟩ = some (.slice Av xs.length cv) := (blk_cell hs7.p 3).trans rfl
    have HS7 := Aside0.mk hs7
    clear hs7
    rcases HD.out with ⟨he, hq⟩ | ⟨rfl, hn, hq⟩ | ⟨rfl, rfl, hq⟩
    case' inr.inr =>
      simp only [Prod.mk.injEq] at hq
      obtain ⟨rfl, rfl, rfl, rfl, rfl⟩ := hq
      clear HD
      go_wp2
      refine bodyPost_ret (results_ct rfl _ _ w.heap.size 91 _ (0, 0) _ rfl (fr.set4 HS7.out.z rfl) Try.underlying91 rfl (by kernel_rfl)) rfl ?_
      exact ⟨_, rfl, Kd.R_mono (fr.far4 HO7.out) (fun _ _ => trivial), fr.bset4 HS7.out.b _ _ _ _⟩
    case' inl =>
      simp only [Prod.mk.injEq] at hq
      obtain ⟨rfl, rfl, rfl, rfl, rfl⟩ := hq
      have hne : (r5 != 0) = true := bne_iff_ne.mpr he
      have heq : (r5 == 0) = false := beq_eq_false_iff_ne.mpr he
      clear HD he
      go_wp2
      go_region
      go_wp2
      refine bodyPost_ret (results_ct rfl _ _ w.heap.size 91 _ (0, 0) _ rfl (blk_drew (fr.set4 HS7.out.z rfl)) Try.underlying91 rfl (by kernel_rfl)) rfl ?_
      exact ⟨_, rfl, Kd.R_nil _ _ _ _ _, below_drew1 (fr.bset4 HS7.out.b _ _ _ _)⟩
    case' inr.inl =>
      simp only [Prod.mk.injEq] at hq
      obtain ⟨rfl, rfl, rfl, rfl, rfl⟩ := hq
      have hlt : decide ((0 : Int) < (n5 : Int)) = true := decide_eq_true (by omega)
      have hlt2 : decide (0 < n5) = true := decide_eq_true (by omega)
      clear HD hn
      have HS8 := Aside0.mk (HS7.out.set_e 4)
      go_upto_region 9 with fail
      generalize W7.setCell ⟨w.heap.size + 1, 1, none⟩ (.int .i64 4) = W8 at HS8 ⊢
      have hb1' : W8.cell? ⟨w.heap.size + 1, 1, none⟩ = some (.int .i64 4) := (blk_cell HS8.out.st 1).trans rfl
      have hy0 : W8.cell? ⟨w.heap.size, 0, none⟩ = some (.int .u64 0) := (blk_cell HS8.out.z 0).trans rfl
      have hy1 : W8.cell? ⟨w.heap.size, 1, none⟩ = some (.int .u64 0) := (blk_cell HS8.out.z 1).trans rfl
      have hy2 : W8.cell? ⟨w.heap.size, 2, none⟩ = some (.int .u64 0) := (blk_cell HS8.out.z 2).trans rfl
      have hy3 : W8.cell? ⟨w.heap.size, 3, none⟩ = some (.slice none 0 0) := (blk_cell HS8.out.z 3).trans rfl
      have hyf0 := blk_frozen HS8.out.z 0
      have hyf1 := blk_frozen HS8.out.z 1
      have hyf2 := blk_frozen HS8.out.z 2
      have hyf3 := blk_frozen HS8.out.z 3
      clear hb0 hb1 hbf hz0 hz1 hz2 hz3 hzf0 hzf1 hzf2 hzf3 hp0 hp1 hp2 hp3
      go_wp2
      go_region
      go_wp2
      refine bodyPost_ret (results_ct rfl _ _ w.heap.size 91 _ (0, 0) _ rfl (blk_drew (fr.set4 HS8.out.z rfl)) Try.underlying91 rfl (by kernel_rfl)) rfl ?_
      exact ⟨_, rfl, Kd.R_nil _ _ _ _ _, below_drew1 (fr.bset4 HS8.out.b _ _ _ _)⟩

/-! ### wristbandref12_Same: function 75 -/
def wristbandref12_Same.f (a0_0 : Int) (a0_1 : Int) (a0_2 : Int) (l0_3 : List Int) (a1_0 : Int) (a1_1 : Int) (a1_2 : Int) (l1_3 : List Int) : Option (Bool) := if a0_0 = a1_0 then (if a0_1 = a1_1 then (if a0_2 = a1_2 then (some ((strOfNums l0_3).toList == (strOfNums l1_3).toList)) else (some false)) else (some false)) else (some false)
set_option maxHeartbeats 8000000 in
set_option maxRecDepth 100000 in
theorem wristbandref12_Same.calls (a0_0 : Int) (a0_1 : Int) (a0_2 : Int) (A0_3 : Option Addr) (c0_3 : Nat) (l0_3 : List Int) (a1_0 : Int) (a1_1 : Int) (a1_2 : Int) (A1_3 : Option Addr) (c1_3 : Nat) (l1_3 : List Int) (r : Bool) (w : World) (hr0_3 : Kd.C (Kd.int .u8) w A0_3 l0_3.length l0_3) (hc0_3 : l0_3.length ≤ c0_3) (hr1_3 : Kd.C (Kd.int .u8) w A1_3 l1_3.length l1_3) (hc1_3 : l1_3.length ≤ c1_3) (h : wristbandref12_Same.f a0_0 a0_1 a0_2 l0_3 a1_0 a1_1 a1_2 l1_3 = some r) :
   Calls Try.prog 75 #[.agg #[.int .u64 a0_0, .int .u64 a0_1, .int .u64 a0_2, .slice A0_3 l0_3.length c0_3], .agg #[.int .u64 a1_0, .int .u64 a1_1, .int .u64 a1_2, .slice A1_3 l1_3.length c1_3]] w fun e w' => e = .returned (.bool r) ∧ Below w.heap.size w w' := by
  have hu91 := Try.underlying91
  have HR0_3 := aM hr0_3; have HC0_3 := aM hc0_3; clear hr0_3 hc0_3; have HR1_3 := aM hr1_3; have HC1_3 := aM hc1_3; clear hr1_3 hc1_3; have HB := aM (Below.refl w.heap.size w); have H : (if a0_0 = a1_0 then (if a0_1 = a1_1 then (if a0_2 = a1_2 then (some ((strOfNums l0_3).toList == (strOfNums l1_3).toList)) else (some false)) else (some false)) else (some false)) = some r := h
  clear h; by_cases c3 : a0_0 = a1_0
  ·rw [if_pos c3] at H
   have c3b0 : (a0_0 == a1_0) = true := beq_iff_eq.mpr c3
   have c3b1 : (a0_0 != a1_0) = false := bne_eq_false_iff_eq.mpr c3
   clear c3; by_cases c4 : a0_1 = a1_1
   ·rw [if_pos c4] at H
    have c4b0 : (a0_1 == a1_1) = true := beq_iff_eq.mpr c4
    have c4b1 : (a0_1 != a1_1) = false := bne_eq_false_iff_eq.mpr c4
    clear c4; by_cases c5 : a0_2 = a1_2
    ·rw [if_pos c5] at H
     have c5b0 : (a0_2 == a1_2) = true := beq_iff_eq.mpr c5
     have c5b1 : (a0_2 != a1_2) = false := bne_eq_false_iff_eq.mpr c5
     clear c5; obtain rfl := Option.some.inj H
     go_enter Try.func75, Try.ntmps75
     go_wp2_with (first | ((with_reducible refine gate_dst (N := 2) rfl ?_); refine box_event ?hg (N := 2) ?hd (cs := #[.int .u64 a0_0, .int .u64 a0_1, .int .u64 a0_2, .slice A0_3 l0_3.length c0_3]) (t := 91) ?hr ?_; (case hd => rfl); (case hg => rfl); (case hr => first | (go_simp; done) | (go_simp; rfl)); intro gb151 hg w6 hbox hb; have n0_ := sB HB hb; have n1_ := aM (hbox); have n2_ := aM ((by rw [hg]; exact (below_size (sG HB)) : w.heap.size ≤ gb151)); have n3_ := aM ((by rw [hg]; exact (below_size (sG HB)) : w.heap.size ≤ gb151)); clear HB; have HB := n0_; have BK151 := n1_; have GW151 := n2_; have GE151 := n3_; clear n0_ n1_ n2_ n3_; clear hb hbox hg) | ((with_reducible refine gate_dst (N := 3) rfl ?_); refine box_event ?hg (N := 3) ?hd (cs := #[.int .u64 a1_0, .int .u64 a1_1, .int .u64 a1_2, .slice A1_3 l1_3.length c1_3]) (t := 91) ?hr ?_; (case hd => rfl); (case hg => rfl); (case hr => first | (go_simp; done) | (go_simp; rfl)); intro gb152 hg w7 hbox hb; have n0_ := bB BK151 hb; have n1_ := sB HB hb; have n2_ := aM (hbox); have n3_ := aM ((by rw [hg]; exact (below_size (sG HB)) : w.heap.size ≤ gb152)); have n4_ := aM ((by rw [hg]; exact (below_size (sG HB)) : w.heap.size ≤ gb152)); have n5_ := aM ((by rw [hg]; exact Nat.ne_of_lt (ltB BK151) : gb151 ≠ gb152)); have n6_ := aM ((by rw [hg]; exact Nat.ne_of_gt (ltB BK151) : gb152 ≠ gb151)); clear BK151; clear HB; have BK151 := n0_; have HB := n1_; have BK152 := n2_; have GW152 := n3_; have GE152 := n4_; have NB151_152 := n5_; have NB152_151 := n6_; clear n0_ n1_ n2_ n3_ n4_ n5_ n6_; clear hb hbox hg; have hnb8 := NB151_152.out; have hnc8 := NB152_151.out; have hcz9_0 := cB BK151 0 (.int .u64 a0_0) rfl; have hcz9_1 := cB BK151 1 (.int .u64 a0_1) rfl; have hcz9_2 := cB BK151 2 (.int .u64 a0_2) rfl; have hcz9_3 := cB BK151 3 (.slice A0_3 l0_3.length c0_3) rfl; have hfz9_0 := blk_frozen BK151.out 0; have hfz9_1 := blk_frozen BK151.out 1; have hfz9_2 := blk_frozen BK151.out 2; have hfz9_3 := blk_frozen BK151.out 3; have hcz10_0 := cB BK152 0 (.int .u64 a1_0) rfl; have hcz10_1 := cB BK152 1 (.int .u64 a1_1) rfl; have hcz10_2 := cB BK152 2 (.int .u64 a1_2) rfl; have hcz10_3 := cB BK152 3 (.slice A1_3 l1_3.length c1_3) rfl; have hfz10_0 := blk_frozen BK152.out 0; have hfz10_1 := blk_frozen BK152.out 1; have hfz10_2 := blk_frozen BK152.out 2; have hfz10_3 := blk_frozen BK152.out 3; have hcv11 := Kd.C_string (P := Try.prog) (A := A0_3) (c := c0_3) Try.underlying22 Try.underlying5 Try.underlying9 (Kd.C_below HR0_3.out HB.out); have hcv12 := Kd.C_string (P := Try.prog) (A := A1_3) (c := c1_3) Try.underlying22 Try.underlying5 Try.underlying9 (Kd.C_below HR1_3.out HB.out)))
     go_ret
     exact ⟨by first | rfl | (simp [errW_none, errW_some] <;> rfl) | (simp [*, errW_none, errW_some] <;> rfl), by repeat (first | (with_reducible first | exact HB.out | apply bA | apply bN | apply bD) | exact HB.out)⟩
    ·rw [if_neg c5] at H
     have c5b0 : (a0_2 == a1_2) = false := beq_eq_false_iff_ne.mpr c5
     have c5b1 : (a0_2 != a1_2) = true := bne_iff_ne.mpr c5
     obtain rfl := Option.some.inj H
     go_enter Try.func75, Try.ntmps75
     go_wp2_with (first | ((with_reducible refine gate_dst (N := 2) rfl ?_); refine box_event ?hg (N := 2) ?hd (cs := #[.int .u64 a0_0, .int .u64 a0_1, .int .u64 a0_2, .slice A0_3 l0_3.length c0_3]) (t := 91) ?hr ?_; (case hd => rfl); (case hg => rfl); (case hr => first | (go_simp; done) | (go_simp; rfl)); intro gb151 hg w13 hbox hb; have n0_ := sB HB hb; have n1_ := aM (hbox); have n2_ := aM ((by rw [hg]; exact (below_size (sG HB)) : w.heap.size ≤ gb151)); have n3_ := aM ((by rw [hg]; exact (below_size (sG HB)) : w.heap.size ≤ gb151)); clear HB; have HB := n0_; have BK151 := n1_; have GW151 := n2_; have GE151 := n3_; clear n0_ n1_ n2_ n3_; clear hb hbox hg) | ((with_reducible refine gate_dst (N := 3) rfl ?_); refine box_event ?hg (N := 3) ?hd (cs := #[.int .u64 a1_0, .int .u64 a1_1, .int .u64 a1_2, .slice A1_3 l1_3.length c1_3]) (t := 91) ?hr ?_; (case hd => rfl); (case hg => rfl); (case hr => first | (go_simp; done) | (go_simp; rfl)); intro gb152 hg w14 hbox hb; have n0_ := bB BK151 hb; have n1_ := sB HB hb; have n2_ := aM (hbox); have n3_ := aM ((by rw [hg]; exact (below_size (sG HB)) : w.heap.size ≤ gb152)); have n4_ := aM ((by rw [hg]; exact (below_size (sG HB)) : w.heap.size ≤ gb152)); have n5_ := aM ((by rw [hg]; exact Nat.ne_of_lt (ltB BK151) : gb151 ≠ gb152)); have n6_ := aM ((by rw [hg]; exact Nat.ne_of_gt (ltB BK151) : gb152 ≠ gb151)); clear BK151; clear HB; have BK151 := n0_; have HB := n1_; have BK152 := n2_; have GW152 := n3_; have GE152 := n4_; have NB151_152 := n5_; have NB152_151 := n6_; clear n0_ n1_ n2_ n3_ n4_ n5_ n6_; clear hb hbox hg; have hnb15 := NB151_152.out; have hnc15 := NB152_151.out; have hcz16_0 := cB BK151 0 (.int .u64 a0_0) rfl; have hcz16_1 := cB BK151 1 (.int .u64 a0_1) rfl; have hcz16_2 := cB BK151 2 (.int .u64 a0_2) rfl; have hcz16_3 := cB BK151 3 (.slice A0_3 l0_3.length c0_3) rfl; have hfz16_0 := blk_frozen BK151.out 0; have hfz16_1 := blk_frozen BK151.out 1; have hfz16_2 := blk_frozen BK151.out 2; have hfz16_3 := blk_frozen BK151.out 3; have hcz17_0 := cB BK152 0 (.int .u64 a1_0) rfl; have hcz17_1 := cB BK152 1 (.int .u64 a1_1) rfl; have hcz17_2 := cB BK152 2 (.int .u64 a1_2) rfl; have hcz17_3 := cB BK152 3 (.slice A1_3 l1_3.length c1_3) rfl; have hfz17_0 := blk_frozen BK152.out 0; have hfz17_1 := blk_frozen BK152.out 1; have hfz17_2 := blk_frozen BK152.out 2; have hfz17_3 := blk_frozen BK152.out 3))
     go_ret
     exact ⟨by first | rfl | (simp [errW_none, errW_some] <;> rfl) | (simp [*, errW_none, errW_some] <;> rfl), by repeat (first | (with_reducible first | exact HB.out | apply bA | apply bN | apply bD) | exact HB.out)⟩
   ·rw [if_neg c4] at H
    have c4b0 : (a0_1 == a1_1) = false := beq_eq_false_iff_ne.mpr c4
    have c4b1 : (a0_1 != a1_1) = true := bne_iff_ne.mpr c4
    obtain rfl := Option.some.inj H
    go_enter Try.func75, Try.ntmps75
    go_wp2_with (first | ((with_reducible refine gate_dst (N := 2) rfl ?_); refine box_event ?hg (N := 2) ?hd (cs := #[.int .u64 a0_0, .int .u64 a0_1, .int .u64 a0_2, .slice A0_3 l0_3.length c0_3]) (t := 91) ?hr ?_; (case hd => rfl); (case hg => rfl); (case hr => first | (go_simp; done) | (go_simp; rfl)); intro gb151 hg w18 hbox hb; have n0_ := sB HB hb; have n1_ := aM (hbox); have n2_ := aM ((by rw [hg]; exact (below_size (sG HB)) : w.heap.size ≤ gb151)); have n3_ := aM ((by rw [hg]; exact (below_size (sG HB)) : w.heap.size ≤ gb151)); clear HB; have HB := n0_; have BK151 := n1_; have GW151 := n2_; have GE151 := n3_; clear n0_ n1_ n2_ n3_; clear hb hbox hg) | ((with_reducible refine gate_dst (N := 3) rfl ?_); refine box_event ?hg (N := 3) ?hd (cs := #[.int .u64 a1_0, .int .u64 a1_1, .int .u64 a1_2, .slice A1_3 l1_3.length c1_3]) (t := 91) ?hr ?_; (case hd => rfl); (case hg => rfl); (case hr => first | (go_simp; done) | (go_simp; rfl)); intro gb152 hg w19 hbox hb; have n0_ := bB BK151 hb; have n1_ := sB HB hb; have n2_ := aM (hbox); have n3_ := aM ((by rw [hg]; exact (below_size (sG HB)) : w.heap.size ≤ gb152)); have n4_ := aM ((by rw [hg]; exact (below_size (sG HB)) : w.heap.size ≤ gb152)); have n5_ := aM ((by rw [hg]; exact Nat.ne_of_lt (ltB BK151) : gb151 ≠ gb152)); have n6_ := aM ((by rw [hg]; exact Nat.ne_of_gt (ltB BK151) : gb152 ≠ gb151)); clear BK151; clear HB; have BK151 := n0_; have HB := n1_; have BK152 := n2_; have GW152 := n3_; have GE152 := n4_; have NB151_152 := n5_; have NB152_151 := n6_; clear n0_ n1_ n2_ n3_ n4_ n5_ n6_; clear hb hbox hg; have hnb20 := NB151_152.out; have hnc20 := NB152_151.out; have hcz21_0 := cB BK151 0 (.int .u64 a0_0) rfl; have hcz21_1 := cB BK151 1 (.int .u64 a0_1) rfl; have hcz21_2 := cB BK151 2 (.int .u64 a0_2) rfl; have hcz21_3 := cB BK151 3 (.slice A0_3 l0_3.length c0_3) rfl; have hfz21_0 := blk_frozen BK151.out 0; have hfz21_1 := blk_frozen BK151.out 1; have hfz21_2 := blk_frozen BK151.out 2; have hfz21_3 := blk_frozen BK151.out 3; have hcz22_0 := cB BK152 0 (.int .u64 a1_0) rfl; have hcz22_1 := cB BK152 1 (.int .u64 a1_1) rfl; have hcz22_2 := cB BK152 2 (.int .u64 a1_2) rfl; have hcz22_3 := cB BK152 3 (.slice A1_3 l1_3.length c1_3) rfl; have hfz22_0 := blk_frozen BK152.out 0; have hfz22_1 := blk_frozen BK152.out 1; have hfz22_2 := blk_frozen BK152.out 2; have hfz22_3 := blk_frozen BK152.out 3))
    go_ret
    exact ⟨by first | rfl | (simp [errW_none, errW_some] <;> rfl) | (simp [*, errW_none, errW_some] <;> rfl), by repeat (first | (with_reducible first | exact HB.out | apply bA | apply bN | apply bD) | exact HB.out)⟩
  ·rw [if_neg c3] at H
   have c3b0 : (a0_0 == a1_0) = false := beq_eq_false_iff_ne.mpr c3
   have c3b1 : (a0_0 != a1_0) = true := bne_iff_ne.mpr c3
   obtain rfl := Option.some.inj H
   go_enter Try.func75, Try.ntmps75
   go_wp2_with (first | ((with_reducible refine gate_dst (N := 2) rfl ?_); refine box_event ?hg (N := 2) ?hd (cs := #[.int .u64 a0_0, .int .u64 a0_1, .int .u64 a0_2, .slice A0_3 l0_3.length c0_3]) (t := 91) ?hr ?_; (case hd => rfl); (case hg => rfl); (case hr => first | (go_simp; done) | (go_simp; rfl)); intro gb151 hg w23 hbox hb; have n0_ := sB HB hb; have n1_ := aM (hbox); have n2_ := aM ((by rw [hg]; exact (below_size (sG HB)) : w.heap.size ≤ gb151)); have n3_ := aM ((by rw [hg]; exact (below_size (sG HB)) : w.heap.size ≤ gb151)); clear HB; have HB := n0_; have BK151 := n1_; have GW151 := n2_; have GE151 := n3_; clear n0_ n1_ n2_ n3_; clear hb hbox hg) | ((with_reducible refine gate_dst (N := 3) rfl ?_); refine box_event ?hg (N := 3) ?hd (cs := #[.int .u64 a1_0, .int .u64 a1_1, .int .u64 a1_2, .slice A1_3 l1_3.length c1_3]) (t := 91) ?hr ?_; (case hd => rfl); (case hg => rfl); (case hr => first | (go_simp; done) | (go_simp; rfl)); intro gb152 hg w24 hbox hb; have n0_ := bB BK151 hb; have n1_ := sB HB hb; have n2_ := aM (hbox); have n3_ := aM ((by rw [hg]; exact (below_size (sG HB)) : w.heap.size ≤ gb152)); have n4_ := aM ((by rw [hg]; exact (below_size (sG HB)) : w.heap.size ≤ gb152)); have n5_ := aM ((by rw [hg]; exact Nat.ne_of_lt (ltB BK151) : gb151 ≠ gb152)); have n6_ := aM ((by rw [hg]; exact Nat.ne_of_gt (ltB BK151) : gb152 ≠ gb151)); clear BK151; clear HB; have BK151 := n0_; have HB := n1_; have BK152 := n2_; have GW152 := n3_; have GE152 := n4_; have NB151_152 := n5_; have NB152_151 := n6_; clear n0_ n1_ n2_ n3_ n4_ n5_ n6_; clear hb hbox hg; have hnb25 := NB151_152.out; have hnc25 := NB152_151.out; have hcz26_0 := cB BK151 0 (.int .u64 a0_0) rfl; have hcz26_1 := cB BK151 1 (.int .u64 a0_1) rfl; have hcz26_2 := cB BK151 2 (.int .u64 a0_2) rfl; have hcz26_3 := cB BK151 3 (.slice A0_3 l0_3.length c0_3) rfl; have hfz26_0 := blk_frozen BK151.out 0; have hfz26_1 := blk_frozen BK151.out 1; have hfz26_2 := blk_frozen BK151.out 2; have hfz26_3 := blk_frozen BK151.out 3; have hcz27_0 := cB BK152 0 (.int .u64 a1_0) rfl; have hcz27_1 := cB BK152 1 (.int .u64 a1_1) rfl; have hcz27_2 := cB BK152 2 (.int .u64 a1_2) rfl; have hcz27_3 := cB BK152 3 (.slice A1_3 l1_3.length c1_3) rfl; have hfz27_0 := blk_frozen BK152.out 0; have hfz27_1 := blk_frozen BK152.out 1; have hfz27_2 := blk_frozen BK152.out 2; have hfz27_3 := blk_frozen BK152.out 3))
   go_ret
   exact ⟨by first | rfl | (simp [errW_none, errW_some] <;> rfl) | (simp [*, errW_none, errW_some] <;> rfl), by repeat (first | (with_reducible first | exact HB.out | apply bA | apply bN | apply bD) | exact HB.out)⟩

/-! ### slices_Concat_byte_byte: function 106 -/
def slices_Concat_byte_byte.rd (xs : List (List Int)) (i : Int) : (List Int) := xs.getD i.toNat ([] : List Int)
theorem slices_Concat_byte_byte.at_ {w : World} {A : Option Addr} {n : Nat} {xs : List (List Int)} (h : Kd.C (Kd.slice 5 (Kd.int .u8)) w A n xs) (i : Int) (h0 : 0 ≤ i) (h1 : i < n) : ∃ ad A0 c0, A = some ad ∧ w.cell? (ad.add i.toNat) = some (.slice A0 (slices_Concat_byte_byte.rd xs i).length c0) ∧ (slices_Concat_byte_byte.rd xs i).length ≤ c0 ∧ (Kd.int .u8).C w A0 (slices_Concat_byte_byte.rd xs i).length (slices_Concat_byte_byte.rd xs i) := by
  obtain ⟨ad, c, e, _, hK, hc0⟩ := Kd.C_get h ([] : List Int) i h0 h1
  have hc : ∀ j u, c[j]? = some u → w.cell? (ad.add (i.toNat * 1 + j)) = some u := hc0
  obtain ⟨A0, c0, rfl, l0, g0⟩ := hK
  exact ⟨ad, A0, c0, e, by have hq := hc 0 _ rfl; rwa [Nat.mul_one, Nat.add_zero] at hq, l0, g0⟩
set_option maxHeartbeats 8000000 in
set_option maxRecDepth 100000 in
theorem slices_Concat_byte_byte.grow (n : Nat) (w : World) (hn : n < 140737488355328) :
    Calls Try.prog 110 #[.slice none 0 0, .int .i64 n] w fun e w' => ∃ v0_ : Value, e = .returned (v0_) ∧ Kd.R (Kd.int .u8) 5 w' w.heap.size (fun _ => True) v0_ [] ∧ Below w.heap.size w w' := by
  have HN := Aside0.mk hn
  have hw0 : wrap64 (n : Int) = (n : Int) := by unfold wrap64; omega
  have hd0 : decide ((n : Int) < 0) = false := decide_eq_false (by omega)
  by_cases hz : n = 0
  · subst hz
    clear hn
    go_enter Try.func110, Try.ntmps110
    go_wp2
    go_ret
    exact ⟨_, rfl, Kd.R_nil _ _ _ _ _, Below.refl _ _⟩
  · have hd1 : decide (0 < (n : Int)) = true := decide_eq_true (by omega)
    have hd2 : decide ((0 : Int) < n) = true := decide_eq_true (by omega)
    have hd3 : 0 < n := by omega
    clear hn hz
    go_enter Try.func110, Try.ntmps110
    go_wp2_with ((with_reducible refine gate_builtin (b := .append) (xs := #[.tmp 20, .tmp 21]) rfl ?_); at_builtin; refine Kd.R_append_zeros (Kd.int .u8) (w0 := w) w.heap.size rfl (.tmp 20) (.tmp 21) 22 3 5 (.int .u8 0) 1 rfl Try.underlying22 Try.underlying3 info5 rfl (by decide) (by omega) (.slice none 0 0) [] 0 (n : Int) (fun _ => True) rfl (by first | rfl | exact congrArg (Value.int .i64) hw0) ?aZ ?aF (Kd.R_nil _ _ _ _ _) (by omega) (Below.refl _ _) (Nat.le_refl _) ?aL ?_; (case aZ => exact rfl); (case aF => exact (fun _ _ => trivial)); (case aL => have := HN.out; simp only [List.length_nil]; omega); intro v2 w2 ho hb hg hat; obtain ⟨A2, c2, e2⟩ := Kd.R_slice ho; cases e2; have HO2 := Aside0.mk ho; have HB2 := Aside0.mk hb; clear ho hb hg hat)
    go_ret
    exact ⟨_, rfl, by simpa using Kd.R_take HO2.out (Nat.zero_le _), HB2.out⟩
def slices_Concat_byte_byte.n (l0 : List (List Int)) (i : Nat) : Nat := (l0.take i).flatten.length
def slices_Concat_byte_byte.f (l0 : List (List Int)) : Option (List Int) := if l0.length < 140737488355328 ∧ l0.flatten.length < 140737488355328 then some l0.flatten else none
theorem slices_Concat_byte_byte.step (l0 : List (List Int)) (i : Nat) (h : i < l0.length) : (l0.take (i + 1)).flatten = (l0.take i).flatten ++ slices_Concat_byte_byte.rd l0 (i : Int) := by
  rw [List.take_add_one, List.flatten_append, List.getElem?_eq_getElem h]
  simp [slices_Concat_byte_byte.rd, h]
theorem slices_Concat_byte_byte.le_ (l0 : List (List Int)) (i : Nat) : slices_Concat_byte_byte.n l0 i ≤ l0.flatten.length := by
  unfold slices_Concat_byte_byte.n
  conv => rhs; rw [← List.take_append_drop i l0]
  rw [List.flatten_append, List.length_append]
  omega
set_option maxHeartbeats 8000000 in
set_option maxRecDepth 100000 in
theorem slices_Concat_byte_byte.calls (A0 : Option Addr) (c0 : Nat) (l0 : List (List Int)) (r : List Int) (w : World) (hr0 : Kd.C (Kd.slice 5 (Kd.int .u8)) w A0 l0.length l0) (hc0 : l0.length ≤ c0) (h : slices_Concat_byte_byte.f l0 = some r) :
    Calls Try.prog 106 #[.slice A0 l0.length c0] w fun e w' => ∃ v0_ : Value, e = .returned (v0_) ∧ Kd.R (Kd.int .u8) 5 w' w.heap.size (fun _ => True) v0_ r ∧ Below w.heap.size w w' := by
  unfold slices_Concat_byte_byte.f at h
  by_cases hl : l0.length < 140737488355328 ∧ l0.flatten.length < 140737488355328
  · rw [if_pos hl] at h
    obtain rfl := Option.some.inj h
    have HR0 := Aside0.mk hr0
    have HC0 := Aside0.mk hc0
    have HL1 := Aside0.mk hl.1
    have HL2 := Aside0.mk hl.2
    clear hr0 hc0 h hl
    go_enter Try.func106, Try.ntmps106
    go_wp2
    go_loopg [3, 11] (l0.length + 1) (fun kq v3 v11 w' => ∃ i : Nat, v3 = .int .i64 (slices_Concat_byte_byte.n l0 i : Int) ∧ v11 = .int .i64 (i : Int) ∧ i ≤ l0.length ∧ Aside0 (l0.length < kq + i) ∧ Aside0 (kq ≤ l0.length + 1) ∧ w' = w)
    case atStart => exact ⟨0, rfl, rfl, Nat.zero_le _, ⟨by omega⟩, ⟨Nat.le_refl _⟩, rfl⟩
    case round =>
      obtain ⟨i, rfl, rfl, hi, HF, HK, hw⟩ := hrel
      subst wr
      rcases Nat.lt_or_ge i l0.length with hlt | hge
      · have c1 : decide ((i : Int) < (l0.length : Int)) = true := decide_eq_true (by omega)
        obtain ⟨ad, B, cb, e1, hx, hcb, hin⟩ := slices_Concat_byte_byte.at_ HR0.out (i : Int) (by omega) (by omega)
        cases e1
        simp only [Int.toNat_natCast] at hx
        have p1 := eq_true (show (0 : Int) ≤ (i : Int) by omega)
        have q1 := eq_true (show (i : Int) < (l0.length : Int) by omega)
        have hst := slices_Concat_byte_byte.step l0 i hlt
        have hle := slices_Concat_byte_byte.le_ l0 (i + 1)
        have hlen : slices_Concat_byte_byte.n l0 (i + 1) = slices_Concat_byte_byte.n l0 i + (slices_Concat_byte_byte.rd l0 (i : Int)).length := by unfold slices_Concat_byte_byte.n; rw [hst, List.length_append]
        have hw1 : wrap64 ((slices_Concat_byte_byte.n l0 i : Int) + ((slices_Concat_byte_byte.rd l0 (i : Int)).length : Int)) = (slices_Concat_byte_byte.n l0 (i + 1) : Int) := by have := HL2.out; unfold wrap64; omega
        have HW2 := Aside0.mk (show wrap64 ((i : Int) + 1) = ((i + 1 : Nat) : Int) by have := HL1.out; unfold wrap64; omega)
        have c2 : decide ((slices_Concat_byte_byte.n l0 (i + 1) : Int) < 0) = false := decide_eq_false (by omega)
        have HW1 := Aside0.mk hw1
        clear hst hle hlen
        go_wp2
        obtain ⟨k2, hk2⟩ : ∃ k2, gk = k2 + 1 := ⟨gk - 1, by have := HF.out; omega⟩
        subst hk2
        go_roundg k2
        case measure => have := HK.out; omega
        case rel => exact ⟨i + 1, by first | rfl | exact congrArg (Value.int .i64) HW1.out, congrArg (Value.int .i64) HW2.out, by omega, ⟨by have := HF.out; omega⟩, ⟨by have := HK.out; omega⟩, rfl⟩
      · have hi9 : i = l0.length := by omega
        subst hi9
        have c1 : decide ((l0.length : Int) < (l0.length : Int)) = false := decide_eq_false (by omega)
        have hn9 : slices_Concat_byte_byte.n l0 l0.length = l0.flatten.length := by unfold slices_Concat_byte_byte.n; rw [List.take_length]
        have HL2' := Aside0.mk (show slices_Concat_byte_byte.n l0 l0.length < 140737488355328 by have := HL2.out; omega)
        have HN9 := Aside0.mk hn9
        clear hn9
        go_wp2_with (go_at_call 110; (with_reducible refine (slices_Concat_byte_byte.grow (slices_Concat_byte_byte.n l0 l0.length) _ ?s1).mono ?_); (case s1 => exact HL2'.out); rintro e w1 ⟨v1, rfl, ho, hb⟩; have HO := Aside0.mk ho; have HB := Aside0.mk hb; clear ho hb)
        obtain ⟨A1, e1, rfl⟩ := Kd.R_slice HO.out
        simp only [List.length_nil] at HO ⊢
        go_loopg [6, 27] (l0.length + 1) (fun kq v6 v27 w' => ∃ i : Nat, v27 = .int .i64 (i : Int) ∧ i ≤ l0.length ∧ Aside0 (l0.length < kq + i) ∧ Aside0 (kq ≤ l0.length + 1) ∧ Aside0 (Kd.R (Kd.int .u8) 5 w' w.heap.size (fun _ => True) v6 (l0.take i).flatten) ∧ Aside0 (Below w.heap.size w w'))
        case atStart => exact ⟨0, rfl, Nat.zero_le _, ⟨by omega⟩, ⟨Nat.le_refl _⟩, HO, HB⟩
        case round =>
          obtain ⟨i, rfl, hi, HF, HK, HO2, HB2⟩ := hrel
          obtain ⟨A3, c3, rfl⟩ := Kd.R_slice HO2.out
          rcases Nat.lt_or_ge i l0.length with hlt | hge
          · have c1 : decide ((i : Int) < (l0.length : Int)) = true := decide_eq_true (by omega)
            obtain ⟨ad, B, cb, e1, hx, hcb, hin⟩ := slices_Concat_byte_byte.at_ (Kd.C_below HR0.out HB2.out) (i : Int) (by omega) (by omega)
            cases e1
            have HIN := Aside0.mk hin
            simp only [Int.toNat_natCast] at hx
            have p1 := eq_true (show (0 : Int) ≤ (i : Int) by omega)
            have q1 := eq_true (show (i : Int) < (l0.length : Int) by omega)
            have HW2 := Aside0.mk (show wrap64 ((i : Int) + 1) = ((i + 1 : Nat) : Int) by have := HL1.out; unfold wrap64; omega)
            have HST := Aside0.mk (slices_Concat_byte_byte.step l0 i hlt)
            have HLE := Aside0.mk (show ((l0.take i).flatten.length + (slices_Concat_byte_byte.rd l0 (i : Int)).length) * 1 ≤ 140737488355328 by have h1 := slices_Concat_byte_byte.le_ l0 (i + 1); unfold slices_Concat_byte_byte.n at h1; rw [HST.out, List.length_append] at h1; have := HL2.out; omega)
            clear hin hcb
            go_wp2_with (((with_reducible refine gate_builtin (b := .append) (xs := #[.tmp 31, .tmp 32]) rfl ?_); at_builtin; refine Kd.R_append_rows (Kd.int .u8) (w0 := w) w.heap.size rfl (.tmp 31) (.tmp 32) 22 5 (.int .u8 0) 1 rfl Try.underlying22 info5 rfl (by decide) (by omega) _ (l0.take i).flatten (slices_Concat_byte_byte.rd l0 (i : Int)) _ _ _ (fun _ => True) (fun _ => False) rfl rfl ?aO ?aR (fun _ _ h => h) (fun _ h => h.elim) ?aF ?aB ?aS ?aL ?_; (case aR => exact HIN.out); (case aB => exact HB2.out); (case aF => exact (fun _ _ => trivial)); (case aO => exact HO2.out); (case aS => exact HB2.out.size); (case aL => exact HLE.out); intro v2 w2 ho hb hg hat; have HO4 := Aside0.mk ho; have HB4 := Aside0.mk hb; clear ho hb hg hat))
            obtain ⟨k2, hk2⟩ : ∃ k2, gk = k2 + 1 := ⟨gk - 1, by have := HF.out; omega⟩
            subst hk2
            go_roundg k2
            case measure => have := HK.out; omega
            case rel => exact ⟨i + 1, congrArg (Value.int .i64) HW2.out, by omega, ⟨by have := HF.out; omega⟩, ⟨by have := HK.out; omega⟩, ⟨HST.out ▸ HO4.out⟩, HB4⟩
          · have hi9 : i = l0.length := by omega
            subst hi9
            have c1 : decide ((l0.length : Int) < (l0.length : Int)) = false := decide_eq_false (by omega)
            go_wp2
            go_ret
            exact ⟨_, rfl, by simpa using HO2.out, HB2.out⟩
  · rw [if_neg hl] at h; cases h

/-! ### frame_Msg: function 76 -/
def frame_Msg.f (k : Nat) (a0 : Int) (a1 : Int) (a2 : Int) : Option (List Int) := (word_Put.f k a0).bind fun t156 => ((word_Put.f k a1).bind fun t159 => ((word_Put.f k a2).bind fun t162 => ((slices_Concat_byte_byte.f (([(([67] : List Int)), t156, t159, t162] : List (List Int)))).bind fun t168 => (some t168))))
theorem frame_Msg.mono : ∀ a0 a1 a2 k, LeO (frame_Msg.f k a0 a1 a2) (frame_Msg.f (k + 1) a0 a1 a2) := by
  intro a0 a1 a2 k; unfold frame_Msg.f
  repeat' first
    | (with_reducible exact word_Put.mono _ _)
    | (with_reducible exact LeO.refl _)
    | (with_reducible exact LeO.none _)
    | (with_reducible refine LeO.ite ?_ ?_)
    | (with_reducible refine LeO.bind ?_ (fun _ => ?_))
    | exact word_Put.mono _ _
    | exact LeO.none _
    | refine LeO.ite ?_ ?_
    | refine LeO.bind ?_ (fun _ => ?_)
set_option maxHeartbeats 8000000 in
set_option maxRecDepth 100000 in
theorem frame_Msg.calls (k : Nat) (a0 : Int) (a1 : Int) (a2 : Int) (r : List Int) (w : World) (h : frame_Msg.f k a0 a1 a2 = some r) :
   Calls Try.prog 76 #[.int .u64 a0, .int .u64 a1, .int .u64 a2] w fun e w' => ∃ v0_ : Value, e = .returned (v0_) ∧ Kd.R (Kd.int .u8) 5 w' w.heap.size (fun _ => True) v0_ r ∧ Below w.heap.size w w' := by
  have HB := aM (Below.refl w.heap.size w); have H : ((word_Put.f k a0).bind fun t156 => ((word_Put.f k a1).bind fun t159 => ((word_Put.f k a2).bind fun t162 => ((slices_Concat_byte_byte.f (([(([67] : List Int)), t156, t159, t162] : List (List Int)))).bind fun t168 => (some t168))))) = some r := h
  clear h; obtain ⟨y153, hy153⟩ : ∃ y_ : List Int, y_ = (([67] : List Int)) := ⟨_, rfl⟩
  replace H : ((word_Put.f k a0).bind fun t156 => ((word_Put.f k a1).bind fun t159 => ((word_Put.f k a2).bind fun t162 => ((slices_Concat_byte_byte.f (([y153, t156, t159, t162] : List (List Int)))).bind fun t168 => (some t168))))) = some r := by first | (rw [hy153]; with_reducible exact H) | (have H2_ := (Option.bind_some _ _).symm.trans H; rw [hy153]; with_reducible exact H2_) | (have H2_ := (Option.bind_some _ _).symm.trans H; with_reducible exact H2_) | with_reducible exact H | (rw [hy153]; exact H) | exact H
  have Ny153 := aM hy153; clear hy153; replace H := Option.bind_eq_some_iff.mp H
  obtain ⟨t156, A40, H⟩ := H
  replace H : ((word_Put.f k a1).bind fun t159 => ((word_Put.f k a2).bind fun t162 => ((slices_Concat_byte_byte.f (([y153, t156, t159, t162] : List (List Int)))).bind fun t168 => (some t168)))) = some r := H
  have A4 := aM A40; clear A40; replace H := Option.bind_eq_some_iff.mp H
  obtain ⟨t159, A50, H⟩ := H
  replace H : ((word_Put.f k a2).bind fun t162 => ((slices_Concat_byte_byte.f (([y153, t156, t159, t162] : List (List Int)))).bind fun t168 => (some t168))) = some r := H
  have A5 := aM A50; clear A50; replace H := Option.bind_eq_some_iff.mp H
  obtain ⟨t162, A60, H⟩ := H
  replace H : ((slices_Concat_byte_byte.f (([y153, t156, t159, t162] : List (List Int)))).bind fun t168 => (some t168)) = some r := H
  have A6 := aM A60; clear A60; obtain ⟨y165, hy165⟩ : ∃ y_ : List (List Int), y_ = (([y153, t156, t159, t162] : List (List Int))) := ⟨_, rfl⟩
  replace H : ((slices_Concat_byte_byte.f y165).bind fun t168 => (some t168)) = some r := by first | (rw [hy165]; with_reducible exact H) | (have H2_ := (Option.bind_some _ _).symm.trans H; rw [hy165]; with_reducible exact H2_) | (have H2_ := (Option.bind_some _ _).symm.trans H; with_reducible exact H2_) | with_reducible exact H | (rw [hy165]; exact H) | exact H
  have Ny165 := aM hy165; clear hy165; replace H := Option.bind_eq_some_iff.mp H
  obtain ⟨t168, A70, H⟩ := H
  replace H : (some t168) = some r := H
  have A7 := aM A70; clear A70; obtain rfl := Option.some.inj H
  go_enter Try.func76, Try.ntmps76
  go_wp2_with (first | ((with_reducible refine gate_dst (N := 7) rfl ?_); refine Kd.R_lit (Kd.int .u8) _ 5 ?hg (N := 7) ?hd (xs := ([67] : List Int)) (inner := [.int .u8 67]) (ok := fun _ => True) (okp := fun _ => True) ?hr ?hp (fun _ hk => hk) trivial (Below.refl _ _) (Nat.le_refl _) (by simp) ?_; (case hd => rfl); (case hg => rfl); (case hr => first | (go_simp; done) | (go_simp; rfl)); (case hp => exact (Reps.one (show Kd.M (Kd.int .u8) _ _ _ 67 [.int .u8 67] from rfl) (Reps.none _ _))); intro v154 w8 ho9 hb hg_ hnew_; clear hg_ hnew_; (first | rw [← Ny153.out] at ho9 | (simp only [Int.reduceToNat] at ho9; rw [← Ny153.out] at ho9)); have n0_ := aM (Kd.R_lower ho9 (below_size (sG HB))); have n1_ := sB HB hb; clear HB; have HO155 := n0_; have HB := n1_; clear n0_ n1_; clear hb ho9) | ((with_reducible refine gate_callee (f := 38) rfl ?_); refine goesL_ (some 9) rfl rfl Try.func38 (by kernel_rfl) rfl #[.int .u64 a0] rfl (by (try simp only [mT, mC, mN]); first | done | rfl | (simp only [List.length_drop, List.length_take]; rfl)) ?_; (with_reducible refine (word_Put.calls k a0 t156 _ A4.out).mono ?_); rintro e w10 ⟨v157, rfl, ho0, hb⟩; refine ⟨_, rfl, ?_⟩; have n0_ := aM (Kd.R_elder' (rG HO155) (Kd.R_base ho0) hb); have n1_ := aM (Kd.R_lower (Kd.R_new' ho0 (Kd.R_lt (rG HO155))) (below_size (sG HB))); have n2_ := sB HB hb; clear HO155; clear HB; have HO155 := n0_; have HO158 := n1_; have HB := n2_; clear n0_ n1_ n2_; (try clear hb); (try clear hb2); (try clear hk); (try clear hi); (try clear ho0)) | ((with_reducible refine gate_callee (f := 38) rfl ?_); refine goesL_ (some 11) rfl rfl Try.func38 (by kernel_rfl) rfl #[.int .u64 a1] rfl (by (try simp only [mT, mC, mN]); first | done | rfl | (simp only [List.length_drop, List.length_take]; rfl)) ?_; (with_reducible refine (word_Put.calls k a1 t159 _ A5.out).mono ?_); rintro e w11 ⟨v160, rfl, ho0, hb⟩; refine ⟨_, rfl, ?_⟩; have n0_ := aM (Kd.R_elder' (rG HO155) (Kd.R_base ho0) hb); have n1_ := aM (Kd.R_elder' (rG HO158) (Kd.R_base ho0) hb); have n2_ := aM (Kd.R_lower (Kd.R_new' (Kd.R_new' ho0 (Kd.R_lt (rG HO155))) (Kd.R_lt (rG HO158))) (below_size (sG HB))); have n3_ := sB HB hb; clear HO155; clear HO158; clear HB; have HO155 := n0_; have HO158 := n1_; have HO161 := n2_; have HB := n3_; clear n0_ n1_ n2_ n3_; (try clear hb); (try clear hb2); (try clear hk); (try clear hi); (try clear ho0)) | ((with_reducible refine gate_callee (f := 38) rfl ?_); refine goesL_ (some 13) rfl rfl Try.func38 (by kernel_rfl) rfl #[.int .u64 a2] rfl (by (try simp only [mT, mC, mN]); first | done | rfl | (simp only [List.length_drop, List.length_take]; rfl)) ?_; (with_reducible refine (word_Put.calls k a2 t162 _ A6.out).mono ?_); rintro e w12 ⟨v163, rfl, ho0, hb⟩; refine ⟨_, rfl, ?_⟩; have n0_ := aM (Kd.R_elder' (rG HO155) (Kd.R_base ho0) hb); have n1_ := aM (Kd.R_elder' (rG HO158) (Kd.R_base ho0) hb); have n2_ := aM (Kd.R_elder' (rG HO161) (Kd.R_base ho0) hb); have n3_ := aM (Kd.R_lower (Kd.R_new' (Kd.R_new' (Kd.R_new' ho0 (Kd.R_lt (rG HO155))) (Kd.R_lt (rG HO158))) (Kd.R_lt (rG HO161))) (below_size (sG HB))); have n4_ := sB HB hb; clear HO155; clear HO158; clear HO161; clear HB; have HO155 := n0_; have HO158 := n1_; have HO161 := n2_; have HO164 := n3_; have HB := n4_; clear n0_ n1_ n2_ n3_ n4_; (try clear hb); (try clear hb2); (try clear hk); (try clear hi); (try clear ho0); obtain ⟨Ao13, co13, eo13⟩ := Kd.R_slice HO155.out; subst eo13; obtain ⟨Ao14, co14, eo14⟩ := Kd.R_slice HO158.out; subst eo14; obtain ⟨Ao15, co15, eo15⟩ := Kd.R_slice HO161.out; subst eo15; obtain ⟨Ao16, co16, eo16⟩ := Kd.R_slice HO164.out; subst eo16) | ((with_reducible refine gate_dst (N := 14) rfl ?_); refine Kd.N_lit (Kd.slice 5 (Kd.int .u8)) _ 22 ?hg (N' := 14) ?hd (xs := ([y153, t156, t159, t162] : List (List Int))) (inner := [.slice Ao13 y153.length co13, .slice Ao14 t156.length co14, .slice Ao15 t159.length co15, .slice Ao16 t162.length co16]) (ok := (fun _ => True)) (okp := (fun _ => True)) ?hr ?hp (fun _ hk => hk) trivial (Below.refl _ _) (Nat.le_refl _) (by simp) ?_; (case hd => rfl); (case hg => rfl); (case hr => first | (go_simp; done) | (go_simp; rfl)); (case hp => exact (Reps.one (show Kd.FK (Kd.slice 5 (Kd.int .u8)) _ _ y153 [.slice Ao13 y153.length co13] from (Kd.FK_slice_mk (Kd.R_reads' (Kd.R_mono (ok' := (fun _ => True)) (HO155.out) (fun k_ hk => trivial))).2.1 (Kd.R_F (Kd.R_mono (ok' := (fun _ => True)) (HO155.out) (fun k_ hk => trivial))))) (Reps.one (show Kd.FK (Kd.slice 5 (Kd.int .u8)) _ _ t156 [.slice Ao14 t156.length co14] from (Kd.FK_slice_mk (Kd.R_reads' (Kd.R_mono (ok' := (fun _ => True)) (HO158.out) (fun k_ hk => trivial))).2.1 (Kd.R_F (Kd.R_mono (ok' := (fun _ => True)) (HO158.out) (fun k_ hk => trivial))))) (Reps.one (show Kd.FK (Kd.slice 5 (Kd.int .u8)) _ _ t159 [.slice Ao15 t159.length co15] from (Kd.FK_slice_mk (Kd.R_reads' (Kd.R_mono (ok' := (fun _ => True)) (HO161.out) (fun k_ hk => trivial))).2.1 (Kd.R_F (Kd.R_mono (ok' := (fun _ => True)) (HO161.out) (fun k_ hk => trivial))))) (Reps.one (show Kd.FK (Kd.slice 5 (Kd.int .u8)) _ _ t162 [.slice Ao16 t162.length co16] from (Kd.FK_slice_mk (Kd.R_reads' (Kd.R_mono (ok' := (fun _ => True)) (HO164.out) (fun k_ hk => trivial))).2.1 (Kd.R_F (Kd.R_mono (ok' := (fun _ => True)) (HO164.out) (fun k_ hk => trivial))))) (Reps.none _ _)))))); intro v166 w17 ho18 hb hg_ hnew_; clear hg_ hnew_; (first | rw [← Ny165.out] at ho18 | (simp only [Int.reduceToNat] at ho18; rw [← Ny165.out] at ho18)); have n0_ := aM (Kd.N_lower ho18 (below_size (sG HB))); have n1_ := sB HB hb; clear HB; clear HO155; clear HO158; clear HO161; clear HO164; have HO167 := n0_; have HB := n1_; clear n0_ n1_; clear hb ho18; obtain ⟨Ao19, co19, eo19⟩ := Kd.N_slice HO167.out; subst eo19) | ((with_reducible refine gate_callee (f := 106) rfl ?_); refine goesL_ (some 15) rfl rfl Try.func106 (by kernel_rfl) rfl #[.slice Ao19 y165.length co19] rfl (by (try simp only [mT, mC, mN]); first | done | rfl | (simp only [List.length_drop, List.length_take]; rfl)) ?_; (with_reducible refine (slices_Concat_byte_byte.calls _ _ y165 t168 _ ?side1 ?side2 A7.out).mono ?_); (case side1 => repeat (first | exact (Kd.N_reads' HO167.out).2.2 | (with_reducible refine Kd.C_alloc ?_ _) | (with_reducible refine Kd.C_drewN ?_ _) | (with_reducible refine Kd.C_drew ?_))); (case side2 => exact (Kd.N_reads' HO167.out).2.1); rintro e w20 ⟨v169, rfl, ho0, hb⟩; refine ⟨_, rfl, ?_⟩; have n0_ := aM (Kd.N_elder' (by (with_reducible repeat (first | apply Kd.N_alloc | apply Kd.N_drewN | apply Kd.N_drew)); exact HO167.out) (Kd.R_base ho0) hb); have n1_ := aM (Kd.R_lower ho0 (below_size (sG HB))); have n2_ := sB HB hb; clear HO167; clear HB; have HO167 := n0_; have HO170 := n1_; have HB := n2_; clear n0_ n1_ n2_; (try clear hb); (try clear hb2); (try clear hk); (try clear hi); (try clear ho0)))
  go_ret
  exact ⟨_, by first | rfl | (simp [errW_none, errW_some] <;> rfl) | (simp [*, errW_none, errW_some] <;> rfl), by (with_reducible repeat (first | apply rL | apply rN | apply rW)); exact HO170.out, by repeat (first | (with_reducible first | exact HB.out | apply bA | apply bN | apply bD) | exact HB.out)⟩

end Go.Proofs.Ytnpkhkhlofkbhaa.PFrameBack
