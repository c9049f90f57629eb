/- Words of this session beside the printer's: a constant's bytes (the row bears the run-time's mark). -/
import Derived.Test.YtnpkhkhlofkbhaaWMore
import Derived.Test.YtnpkhkhlofkbhaaWGuard
import Derived.Test.YtnpkhkhlofkbhaaWTab
import Derived.Lib.SlBytesConst
import Derived.Lib.SliceRun
set_option linter.unusedVariables false
namespace Go.Proofs.YtnpkhkhlofkbhaaW.PrintMore
open Go.RowKit Go.Proofs.YtnpkhkhlofkbhaaW.PrintWords Go.Proofs.YtnpkhkhlofkbhaaW.PrintLast
section
variable {P : Program} {ops : Array Oper} {rest : List Oper} {o o2 : Oper} {a : Act} {Q : Exit → Act → World → Prop}
/-- A row that is laid at once, marked or not: what it holds is read wherever its block is as it was. -/
theorem V_laid (W : World) (e base : Nat) (fr : Nat × Nat) {ok : Nat → Prop} (xs : List Int) (hok : ok W.heap.size) (hm : xs.length ≤ 9223372036854775807) :
    Kd.V (Kd.int .u8) e (W.alloc (.cells (nums .u8 xs).toArray e fr)) base ok (.slice (some ⟨W.heap.size, 0, none⟩) xs.length xs.length) xs := by
  refine Kd.V_mk (Nat.le_refl _) (fun w' hw' => ?_)
  have hb : w'.heap[W.heap.size]? = some (.cells (nums .u8 xs).toArray e fr) := (hw' _ hok (by simp)).trans (heap_alloc_new W _)
  refine Kd.C_of_reads (enc := Value.int .u8) (d := (0 : Int)) (h1 := fun _ => rfl) ⟨rfl, hm, fun _ => ⟨_, rfl, fun j hj => ?_⟩⟩
  rw [add_plain]
  simp [World.cell?, hb, nums, List.getD_eq_getElem?_getD, List.getElem?_eq_getElem hj]
/-- '[]byte' of a constant string: the literal and the conversion to its own type, at once. -/
theorem V_const {w0 W : World} {base e t : Nat} (hgd : o.guard = none) {N' : Tmp} (hd : o.dst = some N') (ho2 : o2.op = .convert t t (.tmp N')) (hlt : N' < a.tmps.size)
    (ht : P.underlying t = some (.slice e)) (he : P.underlying e = some (.int .u8)) {xs : List Int} {ok : Nat → Prop}
    (hrun : (execOp a.eval o).run P W = .ok (.value (.slice (some ⟨W.heap.size, 0, none⟩) xs.length xs.length)) (W.alloc (.cells (nums .u8 xs).toArray e)))
    (hg2 : Region.wanted o2 (yielded ops (a.put o.dst (.slice (some ⟨W.heap.size, 0, none⟩) xs.length xs.length)).tmps) = true)
    (hfresh : ok W.heap.size) (HB : Below base w0 W) (hbase : base ≤ W.heap.size) (hm : xs.length ≤ 9223372036854775807)
    (h : ∀ v1 w1, Kd.V (Kd.int .u8) e w1 base ok v1 xs → Below base w0 w1 → W.grownBy w1 none → (∃ b, v1.ownBlock = some b ∧ W.heap.size ≤ b) → wpList P ops Q rest ((a.put o.dst v1).put o2.dst v1) w1) :
    wpList P ops Q (o :: o2 :: rest) a W := by
  refine Kd.event_run hgd hrun (gate_guard hg2 (Kd.event_run (o := { o2 with guard := none }) rfl (v := .slice (some ⟨W.heap.size, 0, none⟩) xs.length xs.length) (w1 := W.alloc (.cells (nums .u8 xs).toArray e ((nums .u8 xs).toArray.size, (nums .u8 xs).toArray.size + 1))) ?_ ?_))
  · have hev : (a.put o.dst (.slice (some ⟨W.heap.size, 0, none⟩) xs.length xs.length)).eval (.tmp N') = .slice (some ⟨W.heap.size, 0, none⟩) xs.length xs.length := by
      rw [hd]
      simp [Act.put, Act.eval, Array.getD_eq_getD_getElem?, hlt]
    have hc := Lib.run_convert_bytes_const (P := P) W t e (nums .u8 xs).toArray xs.length xs.length ht he
    unfold execOp
    simp only [ho2, hev, Sem.run_bind, Sem.run_pure, hc, Result.andThen_ok]
  · exact h _ _ (V_laid W e base _ xs hfresh hm) (HB.alloc hbase _) (World.grownBy_alloc W _ none) ⟨W.heap.size, by simp [Value.ownBlock], Nat.le_refl _⟩
/-- string(b) in a region that draws: it reads; the world is as it was (told as a letter, as behind a call). -/
theorem str_step {Kc : Act → World → Prop} {W : World} {src dst : TypeId} {x : Operand} {v : Value} {s : ByteArray} (hw : Region.wanted o (yielded ops a.tmps) = true) (ho : o.op = .convert src dst x) (hx : a.eval x = v)
    (hrun : (convert src dst v).run P W = .ok (.string s) W) (h : ∀ w1, Below W.heap.size W w1 → Kc (a.put o.dst (.string s)) w1) :
    if Region.wanted o (yielded ops a.tmps) = true then Oper.wp P o a W Kc Q else Kc (a.put o.dst undef) W := by
  rw [if_pos hw]
  unfold Oper.wp execOp
  simp only [ho, hx, Sem.run_bind, Sem.run_pure, hrun, Result.andThen_ok]
  exact h W (Below.refl _ _)
end
/-! Shorter words for the steps of a region: runs of what is done, and a step that yields. -/
def rl : Bool → List Nat → List Bool
  | _, [] => []
  | b, n :: t => List.replicate n b ++ rl (!b) t
def rA (l : List Nat) : Array Bool := ⟨rl true l⟩
theorem sA {α : Type} {a : α} {i : Nat} {xs : List α} : xs.toArray.setIfInBounds i a = (xs.set i a).toArray := List.setIfInBounds_toArray ..
theorem s0 {α : Type} {a b : α} {as : List α} : (a :: as).set 0 b = b :: as := rfl
theorem sS {α : Type} {a b : α} {n : Nat} {as : List α} : (a :: as).set (n + 1) b = a :: as.set n b := rfl
theorem mT {α β : Type} {f : α → β} {l : List α} : Array.map f l.toArray = (List.map f l).toArray := List.map_toArray ..
theorem mC {α β : Type} {f : α → β} {a : α} {l : List α} : List.map f (a :: l) = f a :: List.map f l := rfl
theorem mN {α β : Type} {f : α → β} : List.map f [] = [] := rfl
theorem gD {α : Type} {xs : Array α} {i : Nat} {d : α} : xs.getD i d = xs[i]?.getD d := Array.getD_eq_getD_getElem? ..
theorem oG {α : Type} {a b : α} : (some a).getD b = a := rfl
theorem ofK {b : Nat → Bool} {i : Nat} {C : Prop} (h : b i = false) : b i = true → C := fun h0 => absurd (h.symm.trans h0) (by decide)
section
variable {P : Program} {ops : Array Oper} {md : Region.Mode} {Q : Exit → Act → World → Prop} {S : World → Prop} {ds : List Nat}
theorem pu_ (i t : Nat) (l' : Array Bool) {T : Bool × List (List Nat × List Nat)} {oi : Oper} {v : Value} {fuel : Nat} {l : Array Bool} {a a' : Act} {w : World} (hT : Aside0 (rtab md ops = T)) (hc : anyT T l.toList l'.toList i = true) (hi : ops[i]? = some oi) (hN : oi.dst = some t)
    (hQ : ∀ c a w, Q (.panic c) (a.put oi.dst v) w → Q (.panic c) a w) (hy : Yields P ops oi v a) (ha : a.put (some t) v = a')
    (h : wpAnyLast P md ops Q S ds fuel l' a' w) : wpAnyLast P md ops Q S ds (fuel + 1) l a w :=
  pure_ l' hi hN (any_of hT.out hc) hQ hy ha h
end
theorem bA {w W : World} (h : Below w.heap.size w W) (o : Obj) : Below w.heap.size w (W.alloc o) := below_alloc h o
theorem bN {B : Nat} {w W : World} (h : Below B w W) (n : Nat) : Below B w (W.drewN n) := pw_below_drewN h n
theorem bD {base : Nat} {w W : World} (h : Below base w W) : Below base w W.drew := below_drew1 h
theorem rL {α : Type} {d : Kd α} {e : Nat} {w : World} {base : Nat} {ok : Nat → Prop} {v : Value} {xs : List α} (h : Kd.R d e w base ok v xs) (o : Obj) : Kd.R d e (w.alloc o) base ok v xs := Kd.R_alloc h o
theorem rN {α : Type} {d : Kd α} {e : Nat} {w : World} {base : Nat} {ok : Nat → Prop} {v : Value} {xs : List α} (h : Kd.R d e w base ok v xs) (n : Nat) : Kd.R d e (w.drewN n) base ok v xs := Kd.R_drewN h n
theorem rW {α : Type} {d : Kd α} {e : Nat} {w : World} {base : Nat} {ok : Nat → Prop} {v : Value} {xs : List α} (h : Kd.R d e w base ok v xs) : Kd.R d e w.drew base ok v xs := Kd.R_drew h
/-- A guard that was itself not carried out. -/
theorem wanted_undef {ops : Array Oper} {o og : Oper} {a : Act} {g t : Nat} {u : Bool} (hg : o.guard = some (g, u)) (ho : ops[g]? = some og) (hd : og.dst = some t) (hv : a.tmps[t]? = some undef) : Region.wanted o (yielded ops a.tmps) = false := by
  simp [Region.wanted, hg, yielded, ho, hd, hv, undef]
/-- A slice held against nil. -/
theorem LazyBufEq {P : Program} (w : World) (t e : TypeId) (a : Option Addr) (n c : Nat) (h : P.underlying t = some (.slice e)) : (binOp .eql t (.slice a n c) (.slice none 0 0)).run P w = .ok (.bool a.isNone) w := by
  have h2 := Lib.run_eql_slice_nil (P := P) w t e a n c 0 0 h
  simpa using h2
end Go.Proofs.YtnpkhkhlofkbhaaW.PrintMore
