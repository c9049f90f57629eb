/- Words of this session beside the printer's: a constant's bytes (the row bears the run-time's mark). -/
import Derived.Test.YtnpkhkhlofkbhaaWMore
import Derived.Test.YtnpkhkhlofkbhaaWGuard
import Derived.Test.YtnpkhkhlofkbhaaWTab
import Derived.Lib.SlBytesConst
import Derived.Lib.SliceRun
import Derived.OpenShut
import Derived.ChangeSame
import Derived.ChangeOld
import Derived.ChangeKeysEq
set_option linter.unusedVariables false
namespace Go.Proofs.YtnpkhkhlofkbhaaW.PrintMore
open Go.RowKit Go.Proofs.YtnpkhkhlofkbhaaW.PrintWords Go.Proofs.YtnpkhkhlofkbhaaW.PrintLast
/-- What two tables of words hold, whatever it be: 64 words and 8 words. -/
structure Tb where
  k : List Int
  f : List Int
  lk : k.length = 64
  lf : f.length = 8
  wf : ∀ x ∈ f, 0 ≤ x ∧ x < 4294967296
section
variable {P : Program} {ops : Array Oper} {rest : List Oper} {o o2 : Oper} {a : Act} {Q : Exit → Act → World → Prop}
/-- A row that is laid at once, marked or not: what it holds is read wherever its block is as it was. -/
theorem V_laid (W : World) (e base : Nat) (fr : Nat × Nat) {ok : Nat → Prop} (xs : List Int) (hok : ok W.heap.size) (hm : xs.length ≤ 9223372036854775807) :
    Kd.V (Kd.int .u8) e (W.alloc (.cells (nums .u8 xs).toArray e fr)) base ok (.slice (some ⟨W.heap.size, 0, none⟩) xs.length xs.length) xs := by
  refine Kd.V_mk (Nat.le_refl _) (fun w' hw' => ?_)
  have hb : w'.heap[W.heap.size]? = some (.cells (nums .u8 xs).toArray e fr) := (hw' _ hok (by simp)).trans (heap_alloc_new W _)
  refine Kd.C_of_reads (enc := Value.int .u8) (d := (0 : Int)) (h1 := fun _ => rfl) ⟨rfl, hm, fun _ => ⟨_, rfl, fun j hj => ?_⟩⟩
  rw [add_plain]
  simp [World.cell?, hb, nums, List.getD_eq_getElem?_getD, List.getElem?_eq_getElem hj]
/-- '[]byte' of a constant string: the literal and the conversion to its own type, at once. -/
theorem V_const {w0 W : World} {base e t : Nat} (hgd : o.guard = none) {N' : Tmp} (hd : o.dst = some N') (ho2 : o2.op = .convert t t (.tmp N')) (hlt : N' < a.tmps.size)
    (ht : P.underlying t = some (.slice e)) (he : P.underlying e = some (.int .u8)) {xs : List Int} {ok : Nat → Prop}
    (hrun : (execOp a.eval o).run P W = .ok (.value (.slice (some ⟨W.heap.size, 0, none⟩) xs.length xs.length)) (W.alloc (.cells (nums .u8 xs).toArray e)))
    (hg2 : Region.wanted o2 (yielded ops (a.put o.dst (.slice (some ⟨W.heap.size, 0, none⟩) xs.length xs.length)).tmps) = true)
    (hfresh : ok W.heap.size) (HB : Below base w0 W) (hbase : base ≤ W.heap.size) (hm : xs.length ≤ 9223372036854775807)
    (h : ∀ v1 w1, Kd.V (Kd.int .u8) e w1 base ok v1 xs → Below base w0 w1 → W.grownBy w1 none → (∃ b, v1.ownBlock = some b ∧ W.heap.size ≤ b) → wpList P ops Q rest ((a.put o.dst v1).put o2.dst v1) w1) :
    wpList P ops Q (o :: o2 :: rest) a W := by
  refine Kd.event_run hgd hrun (gate_guard hg2 (Kd.event_run (o := { o2 with guard := none }) rfl (v := .slice (some ⟨W.heap.size, 0, none⟩) xs.length xs.length) (w1 := W.alloc (.cells (nums .u8 xs).toArray e ((nums .u8 xs).toArray.size, (nums .u8 xs).toArray.size + 1))) ?_ ?_))
  · have hev : (a.put o.dst (.slice (some ⟨W.heap.size, 0, none⟩) xs.length xs.length)).eval (.tmp N') = .slice (some ⟨W.heap.size, 0, none⟩) xs.length xs.length := by
      rw [hd]
      simp [Act.put, Act.eval, Array.getD_eq_getD_getElem?, hlt]
    have hc := Lib.run_convert_bytes_const (P := P) W t e (nums .u8 xs).toArray xs.length xs.length ht he
    unfold execOp
    simp only [ho2, hev, Sem.run_bind, Sem.run_pure, hc, Result.andThen_ok]
  · exact h _ _ (V_laid W e base _ xs hfresh hm) (HB.alloc hbase _) (World.grownBy_alloc W _ none) ⟨W.heap.size, by simp [Value.ownBlock], Nat.le_refl _⟩
/-- string(b) in a region that draws: it reads; the world is as it was (told as a letter, as behind a call). -/
theorem str_step {Kc : Act → World → Prop} {W : World} {src dst : TypeId} {x : Operand} {v : Value} {s : ByteArray} (hw : Region.wanted o (yielded ops a.tmps) = true) (ho : o.op = .convert src dst x) (hx : a.eval x = v)
    (hrun : (convert src dst v).run P W = .ok (.string s) W) (h : ∀ w1, Below W.heap.size W w1 → Kc (a.put o.dst (.string s)) w1) :
    if Region.wanted o (yielded ops a.tmps) = true then Oper.wp P o a W Kc Q else Kc (a.put o.dst undef) W := by
  rw [if_pos hw]
  unfold Oper.wp execOp
  simp only [ho, hx, Sem.run_bind, Sem.run_pure, hrun, Result.andThen_ok]
  exact h W (Below.refl _ _)
end
/-! Shorter words for the steps of a region: runs of what is done, and a step that yields. -/
def rl : Bool → List Nat → List Bool
  | _, [] => []
  | b, n :: t => List.replicate n b ++ rl (!b) t
def rA (l : List Nat) : Array Bool := ⟨rl true l⟩
theorem sA {α : Type} {a : α} {i : Nat} {xs : List α} : xs.toArray.setIfInBounds i a = (xs.set i a).toArray := List.setIfInBounds_toArray ..
theorem s0 {α : Type} {a b : α} {as : List α} : (a :: as).set 0 b = b :: as := rfl
theorem sS {α : Type} {a b : α} {n : Nat} {as : List α} : (a :: as).set (n + 1) b = a :: as.set n b := rfl
theorem mT {α β : Type} {f : α → β} {l : List α} : Array.map f l.toArray = (List.map f l).toArray := List.map_toArray ..
theorem mC {α β : Type} {f : α → β} {a : α} {l : List α} : List.map f (a :: l) = f a :: List.map f l := rfl
theorem mN {α β : Type} {f : α → β} : List.map f [] = [] := rfl
theorem gD {α : Type} {xs : Array α} {i : Nat} {d : α} : xs.getD i d = xs[i]?.getD d := Array.getD_eq_getD_getElem? ..
theorem oG {α : Type} {a b : α} : (some a).getD b = a := rfl
theorem ofK {b : Nat → Bool} {i : Nat} {C : Prop} (h : b i = false) : b i = true → C := fun h0 => absurd (h.symm.trans h0) (by decide)
section
variable {P : Program} {ops : Array Oper} {md : Region.Mode} {Q : Exit → Act → World → Prop} {S : World → Prop} {ds : List Nat}
theorem pu_ (i t : Nat) (l' : Array Bool) {T : Bool × List (List Nat × List Nat)} {oi : Oper} {v : Value} {fuel : Nat} {l : Array Bool} {a a' : Act} {w : World} (hT : Aside0 (rtab md ops = T)) (hc : anyT T l.toList l'.toList i = true) (hi : ops[i]? = some oi) (hN : oi.dst = some t)
    (hQ : ∀ c a w, Q (.panic c) (a.put oi.dst v) w → Q (.panic c) a w) (hy : Yields P ops oi v a) (ha : a.put (some t) v = a')
    (h : wpAnyLast P md ops Q S ds fuel l' a' w) : wpAnyLast P md ops Q S ds (fuel + 1) l a w :=
  pure_ l' hi hN (any_of hT.out hc) hQ hy ha h
end
section
variable {P : Program} {ops : Array Oper} {md : Region.Mode} {Q : Exit → Act → World → Prop} {S : World → Prop} {ds : List Nat}
theorem pv_ (i t : Nat) (l' : Array Bool) {T : Bool × List (List Nat × List Nat)} {oi : Oper} {v : Value} {fuel : Nat} {l : Array Bool} {a a' : Act} {w : World} (hT : Aside0 (rtab md ops = T)) (h : wpAnyLast P md ops Q S ds fuel l' a' w)
    (hc : anyT T l.toList l'.toList i = true := by kernel_rfl) (hi : ops[i]? = some oi := by rfl) (hN : oi.dst = some t := by rfl)
    (hQ : ∀ c a w, Q (.panic c) (a.put oi.dst v) w → Q (.panic c) a w := by exact fun _ _ _ h => h) (hy : Yields P ops oi v a := by exact (.inl ⟨by rfl, fun w' => by go_simp; with_reducible rfl⟩)) (ha : a.put (some t) v = a' := by (simp only [Act.put, sA, s0, sS, i64_w, i32_w]; rfl)) : wpAnyLast P md ops Q S ds (fuel + 1) l a w :=
  pure_ l' hi hN (any_of hT.out hc) hQ hy ha h
theorem pw_ (i t : Nat) (l' : Array Bool) {T : Bool × List (List Nat × List Nat)} {oi : Oper} {fuel : Nat} {l : Array Bool} {a a' : Act} {w : World} (hT : Aside0 (rtab md ops = T)) (h : wpAnyLast P md ops Q S ds fuel l' a' w)
    (hc : anyT T l.toList l'.toList i = true := by kernel_rfl) (hi : ops[i]? = some oi := by rfl) (hN : oi.dst = some t := by rfl)
    (hQ : ∀ c a w, Q (.panic c) (a.put oi.dst undef) w → Q (.panic c) a w := by exact fun _ _ _ h => h) (hy : Yields P ops oi undef a := by exact (.inr ⟨by rfl, rfl⟩)) (ha : a.put (some t) undef = a' := by (simp only [Act.put, sA, s0, sS, i64_w, i32_w]; rfl)) : wpAnyLast P md ops Q S ds (fuel + 1) l a w :=
  pure_ l' hi hN (any_of hT.out hc) hQ hy ha h
end
/-! A world that has grown by blocks and draws alone: found by its own spelling. -/
structure Gw (w W : World) : Type where
  b : Below w.heap.size w W
instance {w : World} : Nonempty (Gw w w) := ⟨⟨Below.refl _ _⟩⟩
instance {w W : World} [g : Nonempty (Gw w W)] (o : Obj) : Nonempty (Gw w (W.alloc o)) := g.elim fun g => ⟨⟨below_alloc g.b o⟩⟩
instance {w W : World} [g : Nonempty (Gw w W)] (n : Nat) : Nonempty (Gw w (W.drewN n)) := g.elim fun g => ⟨⟨pw_below_drewN g.b n⟩⟩
instance {w W : World} [g : Nonempty (Gw w W)] : Nonempty (Gw w W.drew) := g.elim fun g => ⟨⟨below_drew1 g.b⟩⟩
theorem aM {p : Prop} (h : p) : Aside0 p := ⟨h⟩
section
variable {α : Type} {d : Kd α} {e base g : Nat} {u w W w1 : World} {ok : Nat → Prop} {v : Value} {xs : List α} {o : Obj}
theorem rG [q : Nonempty (Gw w W)] (h : Aside0 (d.R e w base ok v xs)) : d.R e W base ok v xs := q.elim fun q => Kd.R_below h.out q.b
theorem rB [q : Nonempty (Gw w W)] (h : Aside0 (d.R e w base ok v xs)) (hb : Below W.heap.size W w1) : Aside0 (d.R e w1 base ok v xs) := ⟨Kd.R_below (rG h) hb⟩
theorem vG [q : Nonempty (Gw w W)] (h : Aside0 (d.V e w base ok v xs)) : d.V e W base ok v xs := q.elim fun q => Kd.V_below h.out q.b
theorem vB [q : Nonempty (Gw w W)] (h : Aside0 (d.V e w base ok v xs)) (hb : Below W.heap.size W w1) : Aside0 (d.V e w1 base ok v xs) := ⟨Kd.V_below (vG h) hb⟩
theorem gB [q : Nonempty (Gw w W)] (h : Aside0 (w.heap[g]? = some o)) : W.heap[g]? = some o := q.elim fun q => blk_below h.out q.b
theorem bB [q : Nonempty (Gw w W)] (h : Aside0 (w.heap[g]? = some o)) (hb : Below W.heap.size W w1) : Aside0 (w1.heap[g]? = some o) := ⟨blk_below (gB h) hb⟩
theorem ltB [q : Nonempty (Gw w W)] (h : Aside0 (w.heap[g]? = some o)) : g < W.heap.size := blk_lt (gB h)
theorem sG [q : Nonempty (Gw w W)] (h : Aside0 (Below u.heap.size u w)) : Below u.heap.size u W := q.elim fun q => below_step h.out q.b
theorem sB [q : Nonempty (Gw w W)] (h : Aside0 (Below u.heap.size u w)) (hb : Below W.heap.size W w1) : Aside0 (Below u.heap.size u w1) := ⟨below_step (sG h) hb⟩
theorem rF (j : Nat) (h : d.R e w base (fun k_ => ok k_ ∧ k_ ≠ g) v xs) (x : Value) : d.R e (w.setCell ⟨g, j, none⟩ x) base (fun k_ => ok k_ ∧ k_ ≠ g) v xs := Kd.R_far (p := ⟨g, j, none⟩) h (fun _ hk => hk.2) x
theorem cB {cs : Array Value} {t : TypeId} (h : Aside0 (w.heap[g]? = some (.cells cs t (0, 0)))) (i : Nat) (x : Value) (hx : cs[i]? = some x) : w.cell? ⟨g, i, none⟩ = some x := (blk_cell h.out i).trans hx
end
theorem bA {w W : World} (h : Below w.heap.size w W) (o : Obj) : Below w.heap.size w (W.alloc o) := below_alloc h o
theorem bN {B : Nat} {w W : World} (h : Below B w W) (n : Nat) : Below B w (W.drewN n) := pw_below_drewN h n
theorem bD {base : Nat} {w W : World} (h : Below base w W) : Below base w W.drew := below_drew1 h
theorem rL {α : Type} {d : Kd α} {e : Nat} {w : World} {base : Nat} {ok : Nat → Prop} {v : Value} {xs : List α} (h : Kd.R d e w base ok v xs) (o : Obj) : Kd.R d e (w.alloc o) base ok v xs := Kd.R_alloc h o
theorem rN {α : Type} {d : Kd α} {e : Nat} {w : World} {base : Nat} {ok : Nat → Prop} {v : Value} {xs : List α} (h : Kd.R d e w base ok v xs) (n : Nat) : Kd.R d e (w.drewN n) base ok v xs := Kd.R_drewN h n
theorem rW {α : Type} {d : Kd α} {e : Nat} {w : World} {base : Nat} {ok : Nat → Prop} {v : Value} {xs : List α} (h : Kd.R d e w base ok v xs) : Kd.R d e w.drew base ok v xs := Kd.R_drew h
/-- A guard that was itself not carried out. -/
theorem wanted_undef {ops : Array Oper} {o og : Oper} {a : Act} {g t : Nat} {u : Bool} (hg : o.guard = some (g, u)) (ho : ops[g]? = some og) (hd : og.dst = some t) (hv : a.tmps[t]? = some undef) : Region.wanted o (yielded ops a.tmps) = false := by
  simp [Region.wanted, hg, yielded, ho, hd, hv, undef]
/-- A slice held against nil. -/
theorem LazyBufEq {P : Program} (w : World) (t e : TypeId) (a : Option Addr) (n c : Nat) (h : P.underlying t = some (.slice e)) : (binOp .eql t (.slice a n c) (.slice none 0 0)).run P w = .ok (.bool a.isNone) w := by
  have h2 := Lib.run_eql_slice_nil (P := P) w t e a n c 0 0 h
  simpa using h2
/-! '==' of short arrays of numbers, as one Bool. -/
section
variable {P : Program} {d : Nat} {xs ys : Array Value} {a b : Value} {r s : Bool} {w : World} {e : TypeId} {c i : Nat} {is : List Nat}
theorem eqi_last (ha : (part e xs (i * c)).run P w = .ok a w) (hb : (part e ys (i * c)).run P w = .ok b w) (he : (Op.equalIn d e a b).run P w = .ok r w) : (Op.eqItems d e c xs ys [i]).run P w = .ok r w := by
  simp only [Op.eqItems, Sem.run_bind, ha, hb, he, Result.andThen_ok]
  cases r <;> simp
theorem eqi_cons (ha : (part e xs (i * c)).run P w = .ok a w) (hb : (part e ys (i * c)).run P w = .ok b w) (he : (Op.equalIn d e a b).run P w = .ok r w) (hr : (Op.eqItems d e c xs ys is).run P w = .ok s w) : (Op.eqItems d e c xs ys (i :: is)).run P w = .ok (r && s) w := by
  rw [Op.eqItems]
  simp only [Sem.run_bind, ha, hb, he, Result.andThen_ok]
  cases r
  · simp
  · simpa using hr
theorem eqArr_of {t : TypeId} {n : Nat} (hu : P.underlying t = some (.array n e)) (hi : (P.info? e).isSome = true) (hc : P.cellsOf e = 1) (hl : is = List.range n) (h : (Op.eqItems d e 1 xs ys is).run P w = .ok r w) : (Op.equalIn (d + 1) t (.agg xs) (.agg ys)).run P w = .ok r w := by
  obtain ⟨i, hi⟩ := Option.isSome_iff_exists.1 hi
  rw [run_equalIn_array (P := P) w d xs ys hu hi, hc, ← hl]
  exact h
end
/-- What is new is none of what a row tells of. -/
theorem fresh_at {ok : Nat → Prop} {W : World} (h : ∀ k_, W.heap.size ≤ k_ → ok k_) : ok W.heap.size := h _ (Nat.le_refl _)
theorem cut_mid3 {P : Program} (t e : TypeId) (kl kh km : IntKind) {i : TypeInfo} (ht : P.underlying t = some (.slice e)) (hi : P.info? e = some i) (size : Nat) (hsz : i.size = size) (A : Option Addr) (n c : Nat) (lo hi' : Int) (h0 : 0 ≤ lo) (h1 : lo ≤ hi') (h2 : hi' ≤ n) (hc : n ≤ c) :
    ∀ W : World, (Instr.slice t (.slice A n c) (some (.int kl lo)) (some (.int kh hi')) (some (.int km hi'))).run P W = .ok (.slice (if hi'.toNat = lo.toNat then A else A.map (·.add (lo.toNat * size))) (hi'.toNat - lo.toNat) (hi'.toNat - lo.toNat)) W := by
  intro W
  have hel : P.elem t = e := by simp [Program.elem, ht]
  have hu : P.underlying t = some (.slice (P.elem t)) := by rw [hel]; exact ht
  rw [run_slice_lhm W t A n c hu kl kh km lo hi' hi' h0 h1 (Int.le_refl _) (by omega), hel]
  simp [sizeOf, typeInfo, hi, hsz, sliced, Result.andThen]
/-- xs[a:b:b]. -/
theorem print_mid3_of {P : Program} {α : Type} (enc : α → Value) (d : α) (t e : TypeId) (kl kh km : IntKind) {i : TypeInfo} (ht : P.underlying t = some (.slice e)) (hi : P.info? e = some i) (hsz : i.size = 1) (A : Option Addr) (c : Nat) (xs : List α) (a b : Int) (h0 : 0 ≤ a) (h1 : a ≤ b) (hm : b ≤ xs.length) (hc : xs.length ≤ c) :
    ∃ A' : Option Addr, (∀ W : World, (Instr.slice t (.slice A xs.length c) (some (.int kl a)) (some (.int kh b)) (some (.int km b))).run P W = .ok (.slice A' ((xs.take b.toNat).drop a.toNat).length (b.toNat - a.toNat)) W) ∧
      (∀ w : World, ReadsOf enc d w A xs.length xs → ReadsOf enc d w A' ((xs.take b.toNat).drop a.toNat).length ((xs.take b.toNat).drop a.toNat)) ∧ ((xs.take b.toNat).drop a.toNat).length ≤ b.toNat - a.toNat := by
  have hlt : (xs.take b.toNat).length = b.toNat := by rw [List.length_take]; omega
  have hl : ((xs.take b.toNat).drop a.toNat).length = b.toNat - a.toNat := by rw [List.length_drop, hlt]
  refine ⟨if b.toNat = a.toNat then A else A.map (·.add a.toNat), fun W => ?_, fun w h => ?_, by rw [hl]; omega⟩
  · have hel : P.elem t = e := by simp [Program.elem, ht]
    have hu : P.underlying t = some (.slice (P.elem t)) := by rw [hel]; exact ht
    rw [run_slice_lhm W t A xs.length c hu kl kh km a b b h0 h1 (Int.le_refl _) (by omega), hel, hl]
    simp [sizeOf, typeInfo, hi, hsz, sliced, Result.andThen]
  · have h2 := (h.take_ b.toNat (by omega)).drop_ (c := b.toNat) a.toNat (by omega) (by omega)
    rw [hl]
    exact h2
/-! What the reader reads of an argument, as the kinds say it. -/
def Opens {α : Type} (P : Program) (t : TypeId) (d : Kd α) (G : α → Prop) : Prop :=
  ∀ {H : Type} (enc : TypeId × Value → H) (W : World) (base : Nat) (sp : Nat → Bool) (held : Bool) (fuel : Nat) (cs : List Value) (x : DataW H × List MemPlace), DataW.trod enc P W base sp held fuel t cs = some x → ∃ a, d.K W a cs ∧ G a
def OpensFs {α : Type} (P : Program) (fs : List Field) (o : Nat) (d : Kd α) (G : α → Prop) : Prop :=
  ∀ {H : Type} (enc : TypeId × Value → H) (W : World) (base : Nat) (sp : Nat → Bool) (held : Bool) (fuel : Nat) (cs : List Value), (∀ f ∈ fs, ∃ y, DataW.trod enc P W base sp held fuel f.type ((cs.drop f.offset).take (P.cellsOf f.type)) = some y) → ∃ a, d.K W a ((cs.drop o).take d.sz) ∧ G a
theorem addr_add_add (a : Addr) (m j : Nat) : (a.add m).add j = a.add (m + j) := by
  rcases Nat.eq_zero_or_pos m with rfl | hm
  · simp [Addr.add]
  · rcases Nat.eq_zero_or_pos j with rfl | hj
    · simp [Addr.add]
    · simp [Addr.add, Nat.pos_iff_ne_zero.1 hm, Nat.pos_iff_ne_zero.1 hj, Nat.add_assoc]
section
variable {P : Program} {t e : TypeId} {α β : Type}
theorem opens_int {k : IntKind} (ht : P.underlying t = some (.int k)) : Opens P t (Kd.int k) (fun n_ : Int => (Lit.int k n_).wf = true) := by
  intro H enc W base sp held fuel cs x h
  obtain ⟨n, rfl, _, hw⟩ := DataW.trod_int ht h
  exact ⟨n, rfl, hw⟩
theorem opens_bool (ht : P.underlying t = some .bool) : Opens P t Kd.bool (fun _ : Bool => True) := by
  intro H enc W base sp held fuel cs x h
  obtain ⟨n, rfl, _⟩ := DataW.trod_bool ht h
  exact ⟨n, rfl, trivial⟩
theorem opens_string (ht : P.underlying t = some .string) : Opens P t Kd.string (fun s_ : ByteArray => s_.size ≤ maxLen) := by
  intro H enc W base sp held fuel cs x h
  obtain ⟨s, rfl, _, hs⟩ := DataW.trod_string ht h
  exact ⟨s, rfl, hs⟩
theorem opens_slice {d : Kd α} {G : α → Prop} (ht : P.underlying t = some (.slice e)) (hd : Opens P e d G) (hc : P.cellsOf e = d.sz) : Opens P t (Kd.slice e d) (fun xs_ : List α => xs_.length ≤ maxLen ∧ ∀ x_ ∈ xs_, G x_) := by
  intro H enc W base sp held fuel cs x h
  rcases DataW.trod_slice ht h with ⟨rfl, _⟩ | ⟨a, len, cap, elems, rest, n, _, rfl, _, hb, hl, hm, hlen, hel, _, _⟩
  · exact ⟨[], ⟨none, 0, rfl, Nat.le_refl _, ⟨rfl, by simp, fun h => absurd h (by simp)⟩⟩, by simp [maxLen], fun x hx => by cases hx⟩
  · have each : ∀ i, i < len → ∃ y cs', cs'.length = d.sz ∧ d.K W y cs' ∧ G y ∧ ∀ j u, cs'[j]? = some u → W.cell? (a.add (i * d.sz + j)) = some u := by
      intro i hi
      have h1 := hel i hi
      have h2 : ∃ z, elems[i]? = some z := ⟨_, List.getElem?_eq_getElem (by omega)⟩
      obtain ⟨z, hz⟩ := h2
      rw [hz] at h1
      obtain ⟨cs', hcs, htr⟩ := Option.bind_eq_some_iff.1 h1
      obtain ⟨y, hk, hg⟩ := hd enc W base sp held n cs' z htr
      obtain ⟨_, hlen', hcell⟩ := World.cells?_some hcs
      refine ⟨y, cs', by rw [hlen', hc], hk, hg, fun j u hu => ?_⟩
      have hj : j < P.cellsOf e := by
        have := (List.getElem?_eq_some_iff.1 hu).1
        omega
      have h3 := hcell j hj
      rw [hu, hc] at h3
      rw [← h3, addr_add_add]
    have build : ∀ m, m ≤ len → ∃ ys : List α, ys.length = m ∧ (∀ y ∈ ys, G y) ∧ ∀ j p, ys[j]? = some p → ∃ c, c.length = d.sz ∧ d.K W p c ∧ ∀ i u, c[i]? = some u → W.cell? (a.add (j * d.sz + i)) = some u := by
      intro m
      induction m with
      | zero => intro _; exact ⟨[], rfl, fun _ h => by simp at h, fun j p h => by simp at h⟩
      | succ m ih =>
        intro hm'
        obtain ⟨ys, hy, hG, hys⟩ := ih (by omega)
        obtain ⟨y, cs', h1, h2, h3, h4⟩ := each m (by omega)
        refine ⟨ys ++ [y], by simp [hy], fun z hz => ?_, fun j p hp => ?_⟩
        · rcases List.mem_append.1 hz with hz | hz
          · exact hG z hz
          · obtain rfl := List.mem_singleton.1 hz; exact h3
        · by_cases hj : j < ys.length
          · rw [List.getElem?_append_left hj] at hp; exact hys j p hp
          · have hjm : j = m := by
              have := (List.getElem?_eq_some_iff.1 hp).1
              simp at this; omega
            subst hjm
            rw [List.getElem?_append_right (by omega), hy, Nat.sub_self] at hp
            simp at hp; subst hp
            exact ⟨cs', h1, h2, h4⟩
    obtain ⟨ys, hy, hG, hys⟩ := build len (Nat.le_refl _)
    have hml : len ≤ maxLen := Nat.le_trans hl hm
    exact ⟨ys, ⟨some a, cap, by rw [hy], by rw [hy]; exact hl, ⟨rfl, by rw [hy]; exact hml, fun _ => ⟨a, rfl, hys⟩⟩⟩, by rw [hy]; exact hml, hG⟩
theorem opens_one {f : Field} {o : Nat} {d : Kd α} {G : α → Prop} (h : Opens P f.type d G) (ho : f.offset = o) (hc : P.cellsOf f.type = d.sz) : OpensFs P [f] o d G := by
  intro H enc W base sp held fuel cs hf
  obtain ⟨y, hy⟩ := hf f (by simp)
  rw [ho, hc] at hy
  exact h enc W base sp held fuel _ y hy
theorem opens_cons {f : Field} {fs : List Field} {o : Nat} {a : Kd α} {b : Kd β} {Ga : α → Prop} {Gb : β → Prop} (h : Opens P f.type a Ga) (ho : f.offset = o) (hc : P.cellsOf f.type = a.sz) (hr : OpensFs P fs (o + a.sz) b Gb) : OpensFs P (f :: fs) o (Kd.pair a b) (fun p_ => Ga p_.1 ∧ Gb p_.2) := by
  intro H enc W base sp held fuel cs hf
  obtain ⟨y, hy⟩ := hf f (by simp)
  rw [ho, hc] at hy
  obtain ⟨x0, k0, g0⟩ := h enc W base sp held fuel _ y hy
  obtain ⟨x1, k1, g1⟩ := hr enc W base sp held fuel cs (fun f' hf' => hf f' (by simp [hf']))
  refine ⟨(x0, x1), ⟨_, _, ?_, k0, k1⟩, g0, g1⟩
  show (cs.drop o).take (a.sz + b.sz) = _
  rw [List.take_add, List.drop_drop]
theorem opens_struct {fs : Array Field} {d : Kd α} {G : α → Prop} (ht : P.underlying t = some (.struct fs)) (hf : OpensFs P fs.toList 0 d G) (hc : P.cellsOf t = d.sz) : Opens P t d G := by
  intro H enc W base sp held fuel cs x h
  obtain ⟨xs, n, _, _, hl, hlen, hxs⟩ := DataW.trod_struct ht h
  obtain ⟨a, hk, hg⟩ := hf enc W base sp held n cs (fun f hf' => by
    obtain ⟨i, hi⟩ := List.mem_iff_getElem?.1 hf'
    have hi' : fs[i]? = some f := by rw [← hi]; simp
    have := hxs i f hi'
    have hlt : i < fs.size := (Array.getElem?_eq_some_iff.1 hi').1
    exact ⟨xs[i]'(by omega), by rw [this]; exact List.getElem?_eq_getElem (by omega)⟩)
  refine ⟨a, ?_, hg⟩
  have e1 : (cs.drop 0).take d.sz = cs := by rw [List.drop_zero, ← hc, ← hl, List.take_length]
  rw [← e1]; exact hk
/-- A place in an array, as a field. -/
def fld (t : TypeId) (o : Nat) : Field := { (default : Field) with type := t, offset := o }
theorem opens_array {n : Nat} {d : Kd α} {G : α → Prop} {fs : List Field} (hce : P.cellsOf e = 1) (ht : P.underlying t = some (.array n e)) (hfs : fs = (List.range n).map (fld e)) (hf : OpensFs P fs 0 d G) (hc : P.cellsOf t = d.sz) : Opens P t d G := by
  intro H enc W base sp held fuel cs x h
  obtain ⟨xs, m, _, _, hl, hlen, hxs⟩ := DataW.trod_array ht h
  obtain ⟨a, hk, hg⟩ := hf enc W base sp held m cs (fun f hf' => by
    rw [hfs] at hf'
    obtain ⟨i, hi, rfl⟩ := List.mem_map.1 hf'
    have hi' : i < n := List.mem_range.1 hi
    have := hxs i hi'
    rw [hce, Nat.mul_one] at this
    show ∃ y, DataW.trod enc P W base sp held m e ((cs.drop i).take (P.cellsOf e)) = some y
    rw [hce]
    exact ⟨xs[i]'(by omega), by rw [this]; exact List.getElem?_eq_getElem (by omega)⟩)
  refine ⟨a, ?_, hg⟩
  have e1 : (cs.drop 0).take d.sz = cs := by rw [List.drop_zero, ← hc, ← hl, List.take_length]
  rw [← e1]; exact hk
theorem okWide_agg {w : World} {r : Reach} {base : Nat} {v : Value} (ht : (match P.underlying t with | some (.struct _) => true | some (.array _ _) => true | _ => false) = true) (h : Value.okWide P w r base t v) : ∃ cs, v = .agg cs := by
  unfold Value.okWide at h
  cases hu : P.underlying t with
  | none => rw [hu] at ht; cases ht
  | some u =>
    rw [hu] at h ht
    cases u <;> first | (cases ht; done) | (obtain ⟨cs, rfl, _⟩ := h; exact ⟨cs, rfl⟩)
theorem opens_iso {d : Kd α} {G : α → Prop} {f : β → α} (h : Opens P t d G) (g : α → β) (hfg : ∀ a, f (g a) = a) : Opens P t (Kd.iso d f) (fun b_ => G (f b_)) := by
  intro H enc W base sp held fuel cs x hx
  obtain ⟨a, hk, hg⟩ := h enc W base sp held fuel cs x hx
  exact ⟨g a, by show d.K W (f (g a)) cs; rw [hfg]; exact hk, by show G (f (g a)); rw [hfg]; exact hg⟩
theorem opens_row {d : Kd α} {G : List α → Prop} {H : Type} {enc : TypeId × Value → H} {W : World} {base : Nat} {sp : Nat → Bool} {held : Bool} {A : Option Addr} {len cap : Nat} {x : DataW H} {p : List MemPlace} (h : Opens P t (Kd.slice e d) G)
    (hT : DataW.Trod enc P W base sp held t (.slice A len cap) x p) : ∃ zs : List α, zs.length = len ∧ len ≤ cap ∧ Kd.C d W A len zs ∧ G zs := by
  obtain ⟨fuel, hf⟩ := hT
  obtain ⟨zs, ⟨A', c', he, hl, hC⟩, hG⟩ := h enc W base sp held fuel _ _ hf
  simp only [Value.cells, List.cons.injEq, Value.slice.injEq, and_true] at he
  obtain ⟨rfl, rfl, rfl⟩ := he
  exact ⟨zs, rfl, hl, hC, hG⟩
end
end Go.Proofs.YtnpkhkhlofkbhaaW.PrintMore
