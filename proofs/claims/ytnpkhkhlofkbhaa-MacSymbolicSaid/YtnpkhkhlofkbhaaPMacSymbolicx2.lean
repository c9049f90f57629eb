-- made by a program of this session (its printer) out of what Lean prints of the given program
import Derived.Test.YtnpkhkhlofkbhaaPMacSymbolicx0
namespace Go.Proofs.Ytnpkhkhlofkbhaa.PMacSymbolic
open Go.RowKit Go.Proofs.YtnpkhkhlofkbhaaW.PrintWords Go.Proofs.YtnpkhkhlofkbhaaW.PrintLast Go.Proofs.YtnpkhkhlofkbhaaW.PrintMore
attribute [local go_sem] max2_int min2_int max_two min_two max_three min_three max_four min_four   -- for this text's walks alone
set_option linter.unusedVariables false
set_option linter.unusedSimpArgs false

set_option linter.unusedSectionVars false
variable [Inhabited Tb]
/-! ### term_Right: function 48 -/
def term_Right.key (x : S60) : List UInt8 × List UInt8 := ((strOfNums x.f0).data.toList, (strOfNums x.f1).data.toList)
def term_Right.f (l0 : List (S60)) : Option Bool := some (decide ((l0.map term_Right.key).Nodup))
theorem term_Right.laidOut : laidOutB Try.prog = true := by kernel_rfl
theorem term_Right.row : (123 : TypeId) < Try.prog.types.size := of_decide_eq_true (by kernel_rfl)
theorem term_Right.wide : (match Try.prog.underlying 123 with | some (.array _ _) | some (.struct _) => true | _ => false) = true := by rw [Try.underlying123]
theorem term_Right.kt : Try.prog.keyTypeAt 2 123 = true := by kernel_rfl
set_option maxRecDepth 100000 in
theorem term_Right.law : Go.Maps.Keyed Try.prog 123 := Go.Maps.Keyed.of_law (deep_law_laid term_Right.laidOut (m := 2) (by omega) term_Right.row term_Right.kt term_Right.wide)
theorem term_Right.zeroE (w : World) : (zeroValue 4).run Try.prog w = .ok (.bool false) w := by kernel_rfl
theorem term_Right.keyOf (s t : ByteArray) (hs : s.size ≤ maxLen) (ht : t.size ≤ maxLen) : keyOf Try.prog 123 (.agg #[.string s, .string t]) = some (.string (keyBytes [.string s.data.toList, .string t.data.toList])) := by
  have hc : Try.prog.cellsOf 123 = 2 := by kernel_rfl
  have hc9 : Try.prog.cellsOf 9 = 1 := by kernel_rfl
  have hkt : Try.prog.keyType 123 = true := by kernel_rfl
  obtain ⟨m, hm⟩ : ∃ m, Try.prog.types.size = m + 1 := ⟨Try.prog.types.size - 1, by have h : (123 : Nat) < Try.prog.types.size := term_Right.row; omega⟩
  unfold Go.keyOf
  simp only [Try.underlying123]
  rw [if_pos (by simp [hkt, Value.formed, Try.underlying123, hc]), hm]
  unfold Program.keyLits
  simp only [Try.underlying123, Value.cells]
  rw [if_pos (by rw [hc]; rfl), show List.range 2 = [0, 1] from rfl, List.mapM_cons, List.mapM_cons, List.mapM_nil]
  simp [hc9, Program.keyLits, Try.underlying9, hs, ht]
theorem term_Right.lookup {H : Type} {P : Program} (w : World) {ops : Array Oper} {rest : List Oper} {o : Oper} {a : Act} {Q : Exit → Act → World → Prop}
    (hg : o.guard = none) (m x : Operand) (t : TypeId) (hop : o.op = Op.lookup t m x false)
    (k e : TypeId) (K : Go.Maps.Keyed P k) (ht : P.underlying t = some (.map k e)) (he : P.underlying e = some .bool) (hz : (zeroValue e).run P w = .ok (.bool false) w) (b n : Nat) (D : DataW H)
    (hm : a.eval m = .map (some b)) (hown : w.ownsMap P k (plainElem P e) b n D) (key : Value) (kl : Lit) (hx : a.eval x = key) (hkey : Go.keyOf P k key = some kl)
    (c : Bool) (hat : D.atKey kl (.lit (.bool false)) = .lit (.bool c))
    (hK : wpList P ops Q rest (a.put o.dst (.bool c)) w) :
    wpList P ops Q (o :: rest) a w := by
  refine wpList_plain hg fun K' hK' => ?_
  obtain ⟨v, ps, hrun, hv⟩ := hown.lookup K ht hz (plainElem_bool he false) hkey
  rw [hat] at hv
  have hvb : v = .bool c := by
    unfold plainElem at hv
    rw [he] at hv
    cases v <;> simp at hv
    rw [hv.1]
  subst hvb
  unfold Oper.wp
  simp [execOp, hop, hm, hx, hrun, Result.andThen]
  exact hK' _ _ hK
/-- What the map holds: of each key whether it was met. -/
def term_Right.Sees (D : DataW Unit) (ks : List (List UInt8 × List UInt8)) : Prop := Go.Maps.IsMap D ∧ ∀ (s t : ByteArray) kl, Go.keyOf Try.prog 123 (.agg #[.string s, .string t]) = some kl → D.atKey kl (.lit (.bool false)) = .lit (.bool (decide ((s.data.toList, t.data.toList) ∈ ks)))
theorem term_Right.sees_nil : term_Right.Sees (.map []) [] := ⟨⟨[], rfl⟩, fun s t kl _ => by simp [DataW.atKey]⟩
theorem term_Right.sees_put {D : DataW Unit} {ks : List (List UInt8 × List UInt8)} (h : term_Right.Sees D ks) {s t : ByteArray} {kl : Lit} (hk : Go.keyOf Try.prog 123 (.agg #[.string s, .string t]) = some kl) :
    term_Right.Sees (D.put kl (.lit (.bool true))) (ks ++ [(s.data.toList, t.data.toList)]) := by
  obtain ⟨hD, h⟩ := h
  refine ⟨by obtain ⟨es, rfl⟩ := hD; exact ⟨_, rfl⟩, fun s' t' kl' hk' => ?_⟩
  by_cases e : kl' = kl
  · subst e
    have := term_Right.law.inj hk hk'
    simp only [Value.agg.injEq, Array.mk.injEq, List.cons.injEq, Value.string.injEq, and_true] at this
    obtain ⟨rfl, rfl⟩ := this
    rw [Go.Maps.atKey_put_same hD (term_Right.law.key hk)]
    simp
  · rw [Go.Maps.atKey_put_other e, h s' t' kl' hk']
    have hne : (s'.data.toList, t'.data.toList) ≠ (s.data.toList, t.data.toList) := by
      intro he
      simp only [Prod.mk.injEq] at he
      have e1 : s' = s := by cases s'; cases s; simp at he; simp [he.1]
      have e2 : t' = t := by cases t'; cases t; simp at he; simp [he.2]
      subst e1; subst e2
      rw [hk] at hk'
      exact e (Option.some.inj hk').symm
    simp [hne]
theorem term_Right.size (xs : List Int) : (strOfNums xs).size = xs.length := by simp [strOfNums, ByteArray.size]
theorem term_Right.take {l0 : List S60} {k : Nat} (h : k < l0.length) : (l0.take (k + 1)).map term_Right.key = (l0.take k).map term_Right.key ++ [term_Right.key (rd_T60 l0 k)] := by
  rw [List.take_succ_eq_append_getElem h, List.map_append]
  simp [rd_T60, List.getD_eq_getElem?_getD, h]
theorem term_Right.nodup_take (l0 : List S60) (k : Nat) : (l0.map term_Right.key).Nodup → ((l0.take k).map term_Right.key).Nodup := fun h => by
  rw [List.map_take]; exact List.Nodup.sublist (List.take_sublist _ _) h
set_option maxHeartbeats 8000000 in
set_option maxRecDepth 100000 in
theorem term_Right.calls (A0 : Option Addr) (c0 : Nat) (l0 : List (S60)) (r : Bool) (w : World) (hr0 : Kd.C k60 w A0 l0.length l0) (hc0 : l0.length ≤ c0) (h : term_Right.f l0 = some r) :
    Calls Try.prog 48 #[.slice A0 l0.length c0] w fun e w' => e = .returned (.bool r) ∧ Below w.heap.size w w' := by
  obtain rfl := Option.some.inj h
  have hmm := @run_makeMap Try.prog
  have HR0 := Aside0.mk hr0
  have HLM := Aside0.mk (show l0.length ≤ maxLen from hr0.2.1)
  clear hr0 h hc0
  have HM := Aside0.mk (World.ownsMap_made w Try.prog 123 (plainElem (H := Unit) Try.prog 4))
  have HX := Aside0.mk (show Below w.heap.size w (w.alloc (.map #[] 0)) from (Below.refl _ _).alloc (Nat.le_refl _) _)
  go_enter Try.func48, Try.ntmps48
  go_wp2
  go_loopg [10] (l0.length + 1) (fun kq v wr => ∃ (k : Nat) (D : DataW Unit), k ≤ l0.length ∧ v = .int .i64 k ∧ Aside0 (l0.length < kq + k) ∧ Aside0 (kq ≤ l0.length + 1) ∧ Aside0 (wr.ownsMap Try.prog 123 (plainElem Try.prog 4) w.heap.size k D) ∧ Aside0 (term_Right.Sees D ((l0.take k).map term_Right.key)) ∧ Aside0 (((l0.take k).map term_Right.key).Nodup) ∧ Aside0 (Below w.heap.size w wr))
  case atStart => exact ⟨0, .map [], Nat.zero_le _, rfl, ⟨by omega⟩, ⟨Nat.le_refl _⟩, HM, ⟨by simpa using term_Right.sees_nil⟩, ⟨by simp⟩, HX⟩
  case round =>
    obtain ⟨k, D, hk, rfl, HF, HG, HO, HS, HN, HB⟩ := hrel
    rcases Nat.lt_or_ge k l0.length with hlt | hge
    · have c4 : ((k : Int) < (l0.length : Int)) := by omega
      have c4b0 : decide ((k : Int) < (l0.length : Int)) = true := decide_eq_true c4
      have hR0 := Aside0.mk (Kd.C_below HR0.out HB.out)
      obtain ⟨ad, B0, d0, B1, d1, e146, hx0, hx1, hl0, hi0, hl1, hi1⟩ := at_T60 hR0.out (k : Int) (by omega) c4
      cases e146
      have HI0 := Aside0.mk hi0
      have HI1 := Aside0.mk hi1
      clear hi0 hi1
      simp only [Int.toNat_natCast] at hx0 hx1
      have p146 := eq_true (show (0 : Int) ≤ (k : Int) by omega)
      have q146 := eq_true c4
      clear c4
      have hcvA : (convert 22 9 (.slice B0 (rd_T60 l0 k).f0.length d0)).run Try.prog (wr.alloc (.cells #[.slice B0 (rd_T60 l0 k).f0.length d0, .slice B1 (rd_T60 l0 k).f1.length d1] 60)) = _ := Kd.C_string (P := Try.prog) Try.underlying22 Try.underlying5 Try.underlying9 (Kd.C_alloc HI0.out _)
      have hcvC : (convert 22 9 (.slice B1 (rd_T60 l0 k).f1.length d1)).run Try.prog (wr.alloc (.cells #[.slice B0 (rd_T60 l0 k).f0.length d0, .slice B1 (rd_T60 l0 k).f1.length d1] 60)) = _ := Kd.C_string (P := Try.prog) Try.underlying22 Try.underlying5 Try.underlying9 (Kd.C_alloc HI1.out _)
      have hz : (strOfNums (rd_T60 l0 k).f0).size ≤ maxLen ∧ (strOfNums (rd_T60 l0 k).f1).size ≤ maxLen := by
        rw [term_Right.size, term_Right.size]; exact ⟨HI0.out.2.1, HI1.out.2.1⟩
      have HK := Aside0.mk (term_Right.keyOf _ _ hz.1 hz.2)
      have hat := HS.out.2 _ _ _ HK.out
      have HP := Aside0.mk (term_Right.sees_put HS.out HK.out)
      have hkey : term_Right.key (rd_T60 l0 k) = ((strOfNums (rd_T60 l0 k).f0).data.toList, (strOfNums (rd_T60 l0 k).f1).data.toList) := rfl
      have htk : (l0.take (k + 1)).map term_Right.key = (l0.take k).map term_Right.key ++ [term_Right.key (rd_T60 l0 k)] := term_Right.take hlt
      have hsub := term_Right.nodup_take l0 (k + 1)
      rw [← hkey] at hat HP
      rw [htk] at hsub
      rw [← htk] at HP
      by_cases hm : term_Right.key (rd_T60 l0 k) ∈ (l0.take k).map term_Right.key
      · have hres : decide ((l0.map term_Right.key).Nodup) = false := decide_eq_false (fun hnd => (List.nodup_append.1 (hsub hnd)).2.2 _ hm _ (by simp) rfl)
        rw [decide_eq_true hm] at hat
        have HRES := Aside0.mk hres
        clear hz hres hkey htk hsub hm
        go_wp2_with (first
          | (at_lookup; refine term_Right.lookup _ rfl _ _ 122 rfl 123 4 term_Right.law Try.underlying122 Try.underlying4 (term_Right.zeroE _) w.heap.size k D rfl ((HO.out.alloc _).alloc _) _ _ rfl HK.out true hat ?_)
          | go_in)
        go_ret
        exact ⟨by rw [HRES.out]; rfl, (HB.out.alloc HB.out.size _).alloc (Nat.le_trans HB.out.size (by simp)) _⟩
      · have hnd' : ((l0.take (k + 1)).map term_Right.key).Nodup := by
          rw [htk]
          exact List.nodup_append.2 ⟨HN.out, by simp, fun a ha b hb => by simp at hb; subst hb; exact fun e => hm (e ▸ ha)⟩
        have HN' := Aside0.mk hnd'
        have HW := Aside0.mk (show wrap64 ((k : Int) + 1) = ((k + 1 : Nat) : Int) by have := HLM.out; unfold maxLen at this; unfold wrap64; omega)
        rw [decide_eq_false hm] at hat
        clear hz hkey htk hsub hm hnd'
        go_wp2_with (first
          | (at_lookup; refine term_Right.lookup _ rfl _ _ 122 rfl 123 4 term_Right.law Try.underlying122 Try.underlying4 (term_Right.zeroE _) w.heap.size k D rfl ((HO.out.alloc _).alloc _) _ _ rfl HK.out false hat ?_)
          | (at_mapUpdate; refine wpList_mapUpdate_own _ rfl _ _ _ 122 rfl 123 4 term_Right.law Try.underlying122 _ w.heap.size k D rfl ((HO.out.alloc _).alloc _) (by have := HLM.out; omega) _ _ _ rfl rfl HK.out _ [] (plainElem_bool Try.underlying4 true) ?_; intro w1 hown1 hgrow1; have HO1 := Aside0.mk hown1; have HG1 := Aside0.mk hgrow1; clear hown1 hgrow1)
          | go_in)
        obtain ⟨k1, hk1⟩ : ∃ k1, gk = k1 + 1 := ⟨gk - 1, by have := HF.out; omega⟩
        subst hk1
        go_roundg k1
        case rel => exact ⟨k + 1, _, by omega, by first | rfl | (rw [HW.out]; done) | exact congrArg (Value.int .i64) HW.out | (simp [HW.out]; done), ⟨by have := HF.out; omega⟩, ⟨by have := HG.out; omega⟩, HO1, HP, HN', ⟨((HB.out.alloc HB.out.size _).alloc (Nat.le_trans HB.out.size (by simp)) _).grown HG1.out (Nat.le_trans HB.out.size (by simp; omega)) (fun j hj => by cases hj; exact Nat.le_refl _)⟩⟩
        case measure => have := HG.out; omega
    · have hke : k = l0.length := Nat.le_antisymm hk hge
      subst hke
      have c4b0 : decide (((l0.length : Nat) : Int) < (l0.length : Int)) = false := decide_eq_false (by omega)
      have hres : decide ((l0.map term_Right.key).Nodup) = true := decide_eq_true (by have := HN.out; rwa [List.take_length] at this)
      go_wp2
      go_ret
      exact ⟨by rw [hres]; rfl, HB.out⟩

/-! ### slices_Concat_byte_byte: function 106 -/
def slices_Concat_byte_byte.rd (xs : List (List Int)) (i : Int) : (List Int) := xs.getD i.toNat ([] : List Int)
theorem slices_Concat_byte_byte.at_ {w : World} {A : Option Addr} {n : Nat} {xs : List (List Int)} (h : Kd.C (Kd.slice 5 (Kd.int .u8)) w A n xs) (i : Int) (h0 : 0 ≤ i) (h1 : i < n) : ∃ ad A0 c0, A = some ad ∧ w.cell? (ad.add i.toNat) = some (.slice A0 (slices_Concat_byte_byte.rd xs i).length c0) ∧ (slices_Concat_byte_byte.rd xs i).length ≤ c0 ∧ (Kd.int .u8).C w A0 (slices_Concat_byte_byte.rd xs i).length (slices_Concat_byte_byte.rd xs i) := by
  obtain ⟨ad, c, e, _, hK, hc0⟩ := Kd.C_get h ([] : List Int) i h0 h1
  have hc : ∀ j u, c[j]? = some u → w.cell? (ad.add (i.toNat * 1 + j)) = some u := hc0
  obtain ⟨A0, c0, rfl, l0, g0⟩ := hK
  exact ⟨ad, A0, c0, e, by have hq := hc 0 _ rfl; rwa [Nat.mul_one, Nat.add_zero] at hq, l0, g0⟩
set_option maxHeartbeats 8000000 in
set_option maxRecDepth 100000 in
theorem slices_Concat_byte_byte.grow (n : Nat) (w : World) (hn : n < 140737488355328) :
    Calls Try.prog 110 #[.slice none 0 0, .int .i64 n] w fun e w' => ∃ v0_ : Value, e = .returned (v0_) ∧ Kd.R (Kd.int .u8) 5 w' w.heap.size (fun _ => True) v0_ [] ∧ Below w.heap.size w w' := by
  have HN := Aside0.mk hn
  have hw0 : wrap64 (n : Int) = (n : Int) := by unfold wrap64; omega
  have hd0 : decide ((n : Int) < 0) = false := decide_eq_false (by omega)
  by_cases hz : n = 0
  · subst hz
    clear hn
    go_enter Try.func110, Try.ntmps110
    go_wp2
    go_ret
    exact ⟨_, rfl, Kd.R_nil _ _ _ _ _, Below.refl _ _⟩
  · have hd1 : decide (0 < (n : Int)) = true := decide_eq_true (by omega)
    have hd2 : decide ((0 : Int) < n) = true := decide_eq_true (by omega)
    have hd3 : 0 < n := by omega
    clear hn hz
    go_enter Try.func110, Try.ntmps110
    go_wp2_with ((with_reducible refine gate_builtin (b := .append) (xs := #[.tmp 20, .tmp 21]) rfl ?_); at_builtin; refine Kd.R_append_zeros (Kd.int .u8) (w0 := w) w.heap.size rfl (.tmp 20) (.tmp 21) 22 3 5 (.int .u8 0) 1 rfl Try.underlying22 Try.underlying3 info5 rfl (by decide) (by omega) (.slice none 0 0) [] 0 (n : Int) (fun _ => True) rfl (by first | rfl | exact congrArg (Value.int .i64) hw0) ?aZ ?aF (Kd.R_nil _ _ _ _ _) (by omega) (Below.refl _ _) (Nat.le_refl _) ?aL ?_; (case aZ => exact rfl); (case aF => exact (fun _ _ => trivial)); (case aL => have := HN.out; simp only [List.length_nil]; omega); intro v2 w2 ho hb hg hat; obtain ⟨A2, c2, e2⟩ := Kd.R_slice ho; cases e2; have HO2 := Aside0.mk ho; have HB2 := Aside0.mk hb; clear ho hb hg hat)
    go_ret
    exact ⟨_, rfl, by simpa using Kd.R_take HO2.out (Nat.zero_le _), HB2.out⟩
def slices_Concat_byte_byte.n (l0 : List (List Int)) (i : Nat) : Nat := (l0.take i).flatten.length
def slices_Concat_byte_byte.f (l0 : List (List Int)) : Option (List Int) := if l0.length < 140737488355328 ∧ l0.flatten.length < 140737488355328 then some l0.flatten else none
theorem slices_Concat_byte_byte.step (l0 : List (List Int)) (i : Nat) (h : i < l0.length) : (l0.take (i + 1)).flatten = (l0.take i).flatten ++ slices_Concat_byte_byte.rd l0 (i : Int) := by
  rw [List.take_add_one, List.flatten_append, List.getElem?_eq_getElem h]
  simp [slices_Concat_byte_byte.rd, h]
theorem slices_Concat_byte_byte.le_ (l0 : List (List Int)) (i : Nat) : slices_Concat_byte_byte.n l0 i ≤ l0.flatten.length := by
  unfold slices_Concat_byte_byte.n
  conv => rhs; rw [← List.take_append_drop i l0]
  rw [List.flatten_append, List.length_append]
  omega
set_option maxHeartbeats 8000000 in
set_option maxRecDepth 100000 in
theorem slices_Concat_byte_byte.calls (A0 : Option Addr) (c0 : Nat) (l0 : List (List Int)) (r : List Int) (w : World) (hr0 : Kd.C (Kd.slice 5 (Kd.int .u8)) w A0 l0.length l0) (hc0 : l0.length ≤ c0) (h : slices_Concat_byte_byte.f l0 = some r) :
    Calls Try.prog 106 #[.slice A0 l0.length c0] w fun e w' => ∃ v0_ : Value, e = .returned (v0_) ∧ Kd.R (Kd.int .u8) 5 w' w.heap.size (fun _ => True) v0_ r ∧ Below w.heap.size w w' := by
  unfold slices_Concat_byte_byte.f at h
  by_cases hl : l0.length < 140737488355328 ∧ l0.flatten.length < 140737488355328
  · rw [if_pos hl] at h
    obtain rfl := Option.some.inj h
    have HR0 := Aside0.mk hr0
    have HC0 := Aside0.mk hc0
    have HL1 := Aside0.mk hl.1
    have HL2 := Aside0.mk hl.2
    clear hr0 hc0 h hl
    go_enter Try.func106, Try.ntmps106
    go_wp2
    go_loopg [3, 11] (l0.length + 1) (fun kq v3 v11 w' => ∃ i : Nat, v3 = .int .i64 (slices_Concat_byte_byte.n l0 i : Int) ∧ v11 = .int .i64 (i : Int) ∧ i ≤ l0.length ∧ Aside0 (l0.length < kq + i) ∧ Aside0 (kq ≤ l0.length + 1) ∧ w' = w)
    case atStart => exact ⟨0, rfl, rfl, Nat.zero_le _, ⟨by omega⟩, ⟨Nat.le_refl _⟩, rfl⟩
    case round =>
      obtain ⟨i, rfl, rfl, hi, HF, HK, hw⟩ := hrel
      subst wr
      rcases Nat.lt_or_ge i l0.length with hlt | hge
      · have c1 : decide ((i : Int) < (l0.length : Int)) = true := decide_eq_true (by omega)
        obtain ⟨ad, B, cb, e1, hx, hcb, hin⟩ := slices_Concat_byte_byte.at_ HR0.out (i : Int) (by omega) (by omega)
        cases e1
        simp only [Int.toNat_natCast] at hx
        have p1 := eq_true (show (0 : Int) ≤ (i : Int) by omega)
        have q1 := eq_true (show (i : Int) < (l0.length : Int) by omega)
        have hst := slices_Concat_byte_byte.step l0 i hlt
        have hle := slices_Concat_byte_byte.le_ l0 (i + 1)
        have hlen : slices_Concat_byte_byte.n l0 (i + 1) = slices_Concat_byte_byte.n l0 i + (slices_Concat_byte_byte.rd l0 (i : Int)).length := by unfold slices_Concat_byte_byte.n; rw [hst, List.length_append]
        have hw1 : wrap64 ((slices_Concat_byte_byte.n l0 i : Int) + ((slices_Concat_byte_byte.rd l0 (i : Int)).length : Int)) = (slices_Concat_byte_byte.n l0 (i + 1) : Int) := by have := HL2.out; unfold wrap64; omega
        have HW2 := Aside0.mk (show wrap64 ((i : Int) + 1) = ((i + 1 : Nat) : Int) by have := HL1.out; unfold wrap64; omega)
        have c2 : decide ((slices_Concat_byte_byte.n l0 (i + 1) : Int) < 0) = false := decide_eq_false (by omega)
        have HW1 := Aside0.mk hw1
        clear hst hle hlen
        go_wp2
        obtain ⟨k2, hk2⟩ : ∃ k2, gk = k2 + 1 := ⟨gk - 1, by have := HF.out; omega⟩
        subst hk2
        go_roundg k2
        case measure => have := HK.out; omega
        case rel => exact ⟨i + 1, by first | rfl | exact congrArg (Value.int .i64) HW1.out, congrArg (Value.int .i64) HW2.out, by omega, ⟨by have := HF.out; omega⟩, ⟨by have := HK.out; omega⟩, rfl⟩
      · have hi9 : i = l0.length := by omega
        subst hi9
        have c1 : decide ((l0.length : Int) < (l0.length : Int)) = false := decide_eq_false (by omega)
        have hn9 : slices_Concat_byte_byte.n l0 l0.length = l0.flatten.length := by unfold slices_Concat_byte_byte.n; rw [List.take_length]
        have HL2' := Aside0.mk (show slices_Concat_byte_byte.n l0 l0.length < 140737488355328 by have := HL2.out; omega)
        have HN9 := Aside0.mk hn9
        clear hn9
        go_wp2_with (go_at_call 110; (with_reducible refine (slices_Concat_byte_byte.grow (slices_Concat_byte_byte.n l0 l0.length) _ ?s1).mono ?_); (case s1 => exact HL2'.out); rintro e w1 ⟨v1, rfl, ho, hb⟩; have HO := Aside0.mk ho; have HB := Aside0.mk hb; clear ho hb)
        obtain ⟨A1, e1, rfl⟩ := Kd.R_slice HO.out
        simp only [List.length_nil] at HO ⊢
        go_loopg [6, 27] (l0.length + 1) (fun kq v6 v27 w' => ∃ i : Nat, v27 = .int .i64 (i : Int) ∧ i ≤ l0.length ∧ Aside0 (l0.length < kq + i) ∧ Aside0 (kq ≤ l0.length + 1) ∧ Aside0 (Kd.R (Kd.int .u8) 5 w' w.heap.size (fun _ => True) v6 (l0.take i).flatten) ∧ Aside0 (Below w.heap.size w w'))
        case atStart => exact ⟨0, rfl, Nat.zero_le _, ⟨by omega⟩, ⟨Nat.le_refl _⟩, HO, HB⟩
        case round =>
          obtain ⟨i, rfl, hi, HF, HK, HO2, HB2⟩ := hrel
          obtain ⟨A3, c3, rfl⟩ := Kd.R_slice HO2.out
          rcases Nat.lt_or_ge i l0.length with hlt | hge
          · have c1 : decide ((i : Int) < (l0.length : Int)) = true := decide_eq_true (by omega)
            obtain ⟨ad, B, cb, e1, hx, hcb, hin⟩ := slices_Concat_byte_byte.at_ (Kd.C_below HR0.out HB2.out) (i : Int) (by omega) (by omega)
            cases e1
            have HIN := Aside0.mk hin
            simp only [Int.toNat_natCast] at hx
            have p1 := eq_true (show (0 : Int) ≤ (i : Int) by omega)
            have q1 := eq_true (show (i : Int) < (l0.length : Int) by omega)
            have HW2 := Aside0.mk (show wrap64 ((i : Int) + 1) = ((i + 1 : Nat) : Int) by have := HL1.out; unfold wrap64; omega)
            have HST := Aside0.mk (slices_Concat_byte_byte.step l0 i hlt)
            have HLE := Aside0.mk (show ((l0.take i).flatten.length + (slices_Concat_byte_byte.rd l0 (i : Int)).length) * 1 ≤ 140737488355328 by have h1 := slices_Concat_byte_byte.le_ l0 (i + 1); unfold slices_Concat_byte_byte.n at h1; rw [HST.out, List.length_append] at h1; have := HL2.out; omega)
            clear hin hcb
            go_wp2_with (((with_reducible refine gate_builtin (b := .append) (xs := #[.tmp 31, .tmp 32]) rfl ?_); at_builtin; refine Kd.R_append_rows (Kd.int .u8) (w0 := w) w.heap.size rfl (.tmp 31) (.tmp 32) 22 5 (.int .u8 0) 1 rfl Try.underlying22 info5 rfl (by decide) (by omega) _ (l0.take i).flatten (slices_Concat_byte_byte.rd l0 (i : Int)) _ _ _ (fun _ => True) (fun _ => False) rfl rfl ?aO ?aR (fun _ _ h => h) (fun _ h => h.elim) ?aF ?aB ?aS ?aL ?_; (case aR => exact HIN.out); (case aB => exact HB2.out); (case aF => exact (fun _ _ => trivial)); (case aO => exact HO2.out); (case aS => exact HB2.out.size); (case aL => exact HLE.out); intro v2 w2 ho hb hg hat; have HO4 := Aside0.mk ho; have HB4 := Aside0.mk hb; clear ho hb hg hat))
            obtain ⟨k2, hk2⟩ : ∃ k2, gk = k2 + 1 := ⟨gk - 1, by have := HF.out; omega⟩
            subst hk2
            go_roundg k2
            case measure => have := HK.out; omega
            case rel => exact ⟨i + 1, congrArg (Value.int .i64) HW2.out, by omega, ⟨by have := HF.out; omega⟩, ⟨by have := HK.out; omega⟩, ⟨HST.out ▸ HO4.out⟩, HB4⟩
          · have hi9 : i = l0.length := by omega
            subst hi9
            have c1 : decide ((l0.length : Int) < (l0.length : Int)) = false := decide_eq_false (by omega)
            go_wp2
            go_ret
            exact ⟨_, rfl, by simpa using HO2.out, HB2.out⟩
  · rw [if_neg hl] at h; cases h

/-! ### bits_RotateLeft32: function 87 -/
def bits_RotateLeft32.f (a0 : Int) (a1 : Int) : Option (Int) := if 0 ≤ (Go.bits .and .u64 (IntKind.u64.wrap (a1)) 31) then (if 0 ≤ (IntKind.u64.wrap (32 - (Go.bits .and .u64 (IntKind.u64.wrap (a1)) 31))) then (some (Go.bits .or .u32 (shl .u32 a0 (Go.bits .and .u64 (IntKind.u64.wrap (a1)) 31)) (shr .u32 a0 (IntKind.u64.wrap (32 - (Go.bits .and .u64 (IntKind.u64.wrap (a1)) 31)))))) else (none)) else (none)
set_option maxHeartbeats 8000000 in
set_option maxRecDepth 100000 in
theorem bits_RotateLeft32.calls (a0 : Int) (a1 : Int) (r : Int) (w : World) (h : bits_RotateLeft32.f a0 a1 = some r) :
   Calls Try.prog 87 #[.int .u32 a0, .int .i64 a1] w fun e w' => e = .returned (.int .u32 r) ∧ Drawn0 w w' := by
  have H : (if 0 ≤ (Go.bits .and .u64 (IntKind.u64.wrap (a1)) 31) then (if 0 ≤ (IntKind.u64.wrap (32 - (Go.bits .and .u64 (IntKind.u64.wrap (a1)) 31))) then (some (Go.bits .or .u32 (shl .u32 a0 (Go.bits .and .u64 (IntKind.u64.wrap (a1)) 31)) (shr .u32 a0 (IntKind.u64.wrap (32 - (Go.bits .and .u64 (IntKind.u64.wrap (a1)) 31)))))) else (none)) else (none)) = some r := h
  clear h; obtain ⟨ji3, hji3⟩ : ∃ j_ : Int, (Go.bits .and .u64 (IntKind.u64.wrap (a1)) 31) = j_ := ⟨_, rfl⟩
  replace H : (if 0 ≤ (ji3) then (if 0 ≤ (IntKind.u64.wrap (32 - (ji3))) then (some (Go.bits .or .u32 (shl .u32 a0 (ji3)) (shr .u32 a0 (IntKind.u64.wrap (32 - (ji3)))))) else (none)) else (none)) = some r := by first | (rw [hji3] at H; exact H) | (simp only [hji3] at H ⊢; exact H)
  by_cases c4 : 0 ≤ (ji3)
  ·rw [if_pos c4] at H
   have c4b0 := eq_true c4
   have c4b1 : decide (0 ≤ (ji3)) = true := decide_eq_true c4
   clear c4; obtain ⟨ji5, hji5⟩ : ∃ j_ : Int, (shl .u32 a0 (ji3)) = j_ := ⟨_, rfl⟩
   replace H : (if 0 ≤ (IntKind.u64.wrap (32 - (ji3))) then (some (Go.bits .or .u32 (ji5) (shr .u32 a0 (IntKind.u64.wrap (32 - (ji3)))))) else (none)) = some r := by first | (rw [hji5] at H; exact H) | (simp only [hji5] at H ⊢; exact H)
   have hji5_ : (IntKind.u32.wrap (a0 * 2 ^ min (ji3).toNat 32)) = ji5 := hji5
   have hji5z : (ji3) ≤ 32 → (IntKind.u32.wrap (a0 * 2 ^ (ji3).toNat)) = ji5 := shl_small hji5
   obtain ⟨ji6, hji6⟩ : ∃ j_ : Int, (IntKind.u64.wrap (32 - (ji3))) = j_ := ⟨_, rfl⟩
   replace H : (if 0 ≤ (ji6) then (some (Go.bits .or .u32 (ji5) (shr .u32 a0 (ji6)))) else (none)) = some r := by first | (rw [hji6] at H; exact H) | (simp only [hji6] at H ⊢; exact H)
   by_cases c7 : 0 ≤ (ji6)
   ·rw [if_pos c7] at H
    have c7b0 := eq_true c7
    have c7b1 : decide (0 ≤ (ji6)) = true := decide_eq_true c7
    clear c7; obtain ⟨ji8, hji8⟩ : ∃ j_ : Int, (shr .u32 a0 (ji6)) = j_ := ⟨_, rfl⟩
    replace H : (some (Go.bits .or .u32 (ji5) (ji8))) = some r := by first | (rw [hji8] at H; exact H) | (simp only [hji8] at H ⊢; exact H)
    have hji8_ : (a0 / 2 ^ min (ji6).toNat 32) = ji8 := hji8
    have hji8z : (ji6) ≤ 32 → (a0 / 2 ^ (ji6).toNat) = ji8 := shr_small hji8
    obtain rfl := Option.some.inj H
    go_enter Try.func87, Try.ntmps87
    go_wp2
    go_ret
    exact ⟨by first | rfl | (simp; done) | (simp only [← hji3, ← hji5, ← hji6, ← hji8] <;> (first | rfl | simp)) | (simp [*]; done), by repeat (first | exact Drawn0.refl _ | apply Drawn0.step)⟩
   ·rw [if_neg c7] at H
    exact absurd H (by simp)
  ·rw [if_neg c4] at H
   exact absurd H (by simp)

/-! ### word_Rot: function 27 -/
def word_Rot.f (a0 : Int) (a1 : Int) : Option (Int) := (bits_RotateLeft32.f a0 (wrap64 (-(Int.tmod a1 32)))).bind fun t146 => (some t146)
set_option maxHeartbeats 8000000 in
set_option maxRecDepth 100000 in
theorem word_Rot.calls (a0 : Int) (a1 : Int) (r : Int) (w : World) (h : word_Rot.f a0 a1 = some r) :
   Calls Try.prog 27 #[.int .u32 a0, .int .i64 a1] w fun e w' => e = .returned (.int .u32 r) ∧ Drawn0 w w' := by
  have H : ((bits_RotateLeft32.f a0 (wrap64 (-(Int.tmod a1 32)))).bind fun t146 => (some t146)) = some r := h
  clear h; replace H := Option.bind_eq_some_iff.mp H
  obtain ⟨t146, A30, H⟩ := H
  replace H : (some t146) = some r := H
  have A3 := Aside0.mk A30; clear A30; obtain rfl := Option.some.inj H
  go_enter Try.func27, Try.ntmps27
  go_wp2_with (first | ((with_reducible refine gate_callee (f := 87) rfl ?_); refine goesL_ (some 9) rfl rfl Try.func87 (by kernel_rfl) rfl #[.int .u32 a0, .int .i64 (wrap64 (-(Int.tmod a1 32)))] rfl (by (try simp only [mT, mC, mN]); first | done | rfl | (simp only [List.length_drop, List.length_take]; rfl)) ?_; (with_reducible refine (bits_RotateLeft32.calls a0 (wrap64 (-(Int.tmod a1 32))) t146 _ A3.out).mono ?_); rintro e w' ⟨rfl, ⟨nd, rfl⟩⟩; refine ⟨_, rfl, ?_⟩))
  go_ret
  exact ⟨by first | rfl | (simp; done) | (simp [*]; done), by repeat (first | exact Drawn0.refl _ | apply Drawn0.step)⟩

/-! ### word_value: function 88 -/
def word_value.l0 : Nat → Int → List Int → Int → Int → Option (Int)
  | 0, _, _, _, _ => none
  | k + 1, x3, x6, x7, x8 => if x8 < x7 then (if 0 ≤ x8 then (if x8 < (x6.length : Int) then (word_value.l0 k (Go.bits .or .u64 (IntKind.u64.wrap (x3 * 256)) (IntKind.u64.wrap (rd x6 x8))) x6 x7 (wrap64 (x8 + 1))) else (none)) else (none)) else (some x3)
def word_value.f (k : Nat) (l0 : List Int) : Option (Int) := word_value.l0 k 0 l0 (l0.length : Int) 0
theorem word_value.mono_l : ∀ k, (∀ y0 y1 y2 y3, LeO (word_value.l0 k y0 y1 y2 y3) (word_value.l0 (k + 1) y0 y1 y2 y3))
  | 0 => fun _ _ _ _ r h => by simp [word_value.l0] at h
  | k + 1 => by
   have ih0 := word_value.mono_l k
   ·intro y0 y1 y2 y3
    unfold word_value.l0
    repeat' first
    | (with_reducible exact ih0 _ _ _ _)
    | (with_reducible exact LeO.refl _)
    | (with_reducible exact LeO.none _)
    | (with_reducible refine LeO.ite ?_ ?_)
    | (with_reducible refine LeO.bind ?_ (fun _ => ?_))
    | exact ih0 _ _ _ _
    | exact LeO.none _
    | refine LeO.ite ?_ ?_
    | refine LeO.bind ?_ (fun _ => ?_)
theorem word_value.mono : ∀ a0 k, LeO (word_value.f k a0) (word_value.f (k + 1) a0) := by
  intro a0 k; have ih0 := word_value.mono_l k
  unfold word_value.f
  repeat' first
    | (with_reducible exact ih0 _ _ _ _)
    | (with_reducible exact LeO.refl _)
    | (with_reducible exact LeO.none _)
    | (with_reducible refine LeO.ite ?_ ?_)
    | (with_reducible refine LeO.bind ?_ (fun _ => ?_))
    | exact ih0 _ _ _ _
    | exact LeO.none _
    | refine LeO.ite ?_ ?_
    | refine LeO.bind ?_ (fun _ => ?_)
set_option maxHeartbeats 8000000 in
set_option maxRecDepth 100000 in
theorem word_value.calls (k : Nat) (A0 : Option Addr) (c0 : Nat) (l0 : List Int) (r : Int) (w : World) (hr0 : Kd.C (Kd.int .u8) w A0 l0.length l0) (hc0 : l0.length ≤ c0) (h : word_value.f k l0 = some r) :
   Calls Try.prog 88 #[.slice A0 l0.length c0] w fun e w' => e = .returned (.int .u64 r) ∧ Drawn0 w w' := by
  have HR0 := Aside0.mk hr0; have HC0 := Aside0.mk hc0; clear hr0 hc0; have H : (word_value.l0 k 0 l0 (l0.length : Int) 0) = some r := h
  clear h; have H' := Aside0.mk H; clear H; go_enter Try.func88, Try.ntmps88
  go_wp2
  go_loopg [3, 8] k (fun kq v3 v8 w' => ∃ (x3_1 : Int) (x8_1 : Int), v3 = .int .u64 x3_1 ∧ v8 = .int .i64 x8_1 ∧ Aside0 (word_value.l0 kq x3_1 l0 (l0.length : Int) x8_1 = some r) ∧ Aside0 (kq ≤ k) ∧ Drawn0 w w')
  case atStart => exact ⟨(0), (0), (by first | rfl | (simp; done) | (simp [*]; done)), (by first | rfl | (simp; done) | (simp [*]; done)), H', ⟨Nat.le_refl _⟩, by repeat (first | exact Drawn0.refl _ | apply Drawn0.step)⟩
  case round =>
   clear H'; obtain ⟨x3_1, x8_1, rfl, rfl, HA, HK1, ⟨m1, rfl⟩⟩ := hrel
   cases gk with
   | zero => exact absurd HA.out (by simp [word_value.l0])
   | succ k1 =>
    have H := HA.out
    clear HA; simp only [word_value.l0] at H
    by_cases c2 : x8_1 < (l0.length : Int)
    ·rw [if_pos c2] at H
     have c2b0 : decide (x8_1 < (l0.length : Int)) = true := decide_eq_true c2
     clear c2; by_cases c3 : 0 ≤ x8_1
     ·rw [if_pos c3] at H
      have c3b0 : decide (0 ≤ x8_1) = true := decide_eq_true c3
      clear c3; by_cases c4 : x8_1 < (l0.length : Int)
      ·rw [if_pos c4] at H
       have c4b0 : decide (x8_1 < (l0.length : Int)) = true := decide_eq_true c4
       clear c4; have H' := Aside0.mk H; clear H; have p147 : 0 ≤ (x8_1 : Int) := of_decide_eq_true (by first | (with_reducible assumption) | assumption)
       have q147 : x8_1 < (l0.length : Int) := of_decide_eq_true (by first | (with_reducible assumption) | assumption)
       obtain ⟨ad147, e147, hx147_0⟩ := Kd.at_int HR0.out x8_1 p147 q147
       cases e147
       replace p147 := eq_true p147
       replace q147 := eq_true q147
       go_wp2
       go_roundg k1
       case measure => have := HK1.out; omega
       case rel => exact ⟨(Go.bits .or .u64 (IntKind.u64.wrap (x3_1 * 256)) (IntKind.u64.wrap (rd l0 x8_1))), (wrap64 (x8_1 + 1)), (by first | rfl | (simp; done) | (simp [*]; done)), (by first | rfl | (simp; done) | (simp [*]; done)), H', ⟨by have := HK1.out; omega⟩, by repeat (first | exact Drawn0.refl _ | apply Drawn0.step)⟩
      ·rw [if_neg c4] at H
       exact absurd H (by simp)
     ·rw [if_neg c3] at H
      exact absurd H (by simp)
    ·rw [if_neg c2] at H
     have c2b0 : decide (x8_1 < (l0.length : Int)) = false := decide_eq_false c2
     clear c2; obtain rfl := Option.some.inj H
     go_wp2
     go_ret
     exact ⟨by first | rfl | (simp; done) | (simp [*]; done), by repeat (first | exact Drawn0.refl _ | apply Drawn0.step)⟩

/-! ### word_Words: function 30 -/
def word_Words.l0 : Nat → List Int → List Int → Option (List Int)
  | 0, _, _ => none
  | k + 1, x0, x3 => if (x0.length : Int) ≥ 4 then (if 4 ≤ (x0.length : Int) then ((word_value.f k (x0.take 4)).bind fun t153 => (if x3.length < 35184372088832 then (word_Words.l0 k (x0.drop 4) (x3 ++ [(t153) % 4294967296])) else (none))) else (none)) else (some x3)
def word_Words.f (k : Nat) (l0 : List Int) : Option (List Int) := word_Words.l0 k l0 ([] : List Int)
theorem word_Words.mono_l : ∀ k, (∀ y0 y1, LeO (word_Words.l0 k y0 y1) (word_Words.l0 (k + 1) y0 y1))
  | 0 => fun _ _ r h => by simp [word_Words.l0] at h
  | k + 1 => by
   have ih0 := word_Words.mono_l k
   ·intro y0 y1
    unfold word_Words.l0
    repeat' first
    | (with_reducible exact ih0 _ _)
    | (with_reducible exact word_value.mono _ _)
    | (with_reducible exact LeO.refl _)
    | (with_reducible exact LeO.none _)
    | (with_reducible refine LeO.ite ?_ ?_)
    | (with_reducible refine LeO.bind ?_ (fun _ => ?_))
    | exact ih0 _ _
    | exact word_value.mono _ _
    | exact LeO.none _
    | refine LeO.ite ?_ ?_
    | refine LeO.bind ?_ (fun _ => ?_)
theorem word_Words.mono : ∀ a0 k, LeO (word_Words.f k a0) (word_Words.f (k + 1) a0) := by
  intro a0 k; have ih0 := word_Words.mono_l k
  unfold word_Words.f
  repeat' first
    | (with_reducible exact ih0 _ _)
    | (with_reducible exact word_value.mono _ _)
    | (with_reducible exact LeO.refl _)
    | (with_reducible exact LeO.none _)
    | (with_reducible refine LeO.ite ?_ ?_)
    | (with_reducible refine LeO.bind ?_ (fun _ => ?_))
    | exact ih0 _ _
    | exact word_value.mono _ _
    | exact LeO.none _
    | refine LeO.ite ?_ ?_
    | refine LeO.bind ?_ (fun _ => ?_)
def word_Words.T3 : Bool × List (List Nat × List Nat) := (true, [([], []), ([], []), ([1], [1]), ([2], [2]), ([3], [3]), ([4], [4]), ([0, 5, 3], [0, 5]), ([], []), ([7], [7]), ([6, 6, 0, 1, 2, 3, 4, 5, 6], [0, 6]), ([8, 9, 0, 1, 2, 3, 4, 5, 6, 7, 8, 9], [1, 7, 8])])
def word_Words.B3 : List Nat := [0, 0, 2, 6, 14, 30, 63, 0, 128, 127, 1023]
theorem word_Words.tab3 : rtab .any (opsOf Try.f30 3) = word_Words.T3 := by kernel_rfl
theorem word_Words.bits3 : waitsOk word_Words.T3.2 word_Words.B3 = true := by kernel_rfl
set_option maxHeartbeats 8000000 in
set_option maxRecDepth 100000 in
theorem word_Words.calls (k : Nat) (P0_ : Nat → Prop) (A0 : Option Addr) (c0 : Nat) (l0 : List Int) (r : List Int) (w : World) (hs0 : Kd.V (Kd.int .u8) 5 w w.heap.size (fun k_ => P0_ k_) (.slice A0 l0.length c0) l0) (h : word_Words.f k l0 = some r) :
   Calls Try.prog 30 #[.slice A0 l0.length c0] w fun e w' => ∃ v0_ : Value, e = .returned (v0_) ∧ Kd.R (Kd.int .u32) 23 w' w.heap.size (fun k_ => (w.heap.size ≤ k_)) v0_ r ∧ Below w.heap.size w w' := by
  have HO0 := Aside0.mk (show Kd.V (Kd.int .u8) 5 w w.heap.size (fun k_ => (P0_ k_ ∨ w.heap.size ≤ k_)) (.slice A0 l0.length c0) l0 from Kd.V_mono hs0 (fun k_ hk => .inl hk)); have HB := Aside0.mk (Below.refl w.heap.size w); have H : (word_Words.l0 k l0 ([] : List Int)) = some r := h
  clear h; have H' := Aside0.mk H; clear H; go_enter Try.func30, Try.ntmps30
  go_wp2
  go_loopg [0, 3] k (fun kq v0 v3 w' => ∃ (x0_1 : List Int) (x3_1 : List Int), Aside0 (word_Words.l0 kq x0_1 x3_1 = some r) ∧ Aside0 (kq ≤ k) ∧ Aside0 (Kd.V (Kd.int .u8) 5 w' w.heap.size (fun k_ => (P0_ k_ ∨ w.heap.size ≤ k_) ∧ some k_ ≠ (v3 : Value).ownBlock) v0 x0_1) ∧ Aside0 (Kd.R (Kd.int .u32) 23 w' w.heap.size (fun k_ => (w.heap.size ≤ k_)) v3 x3_1) ∧ Aside0 (Below w.heap.size w w'))
  case atStart => exact ⟨(l0), (([] : List Int)), H', ⟨Nat.le_refl _⟩, ⟨by (with_reducible repeat (first | apply Kd.V_alloc | apply Kd.V_drewN | apply Kd.V_drew)); exact Kd.V_mono HO0.out (fun _ hk => ⟨hk, (by simp [Value.ownBlock])⟩)⟩, ⟨by first | exact Kd.R_nil _ _ _ _ _ | exact Kd.N_nil _ _ _ _ _ | exact Kd.V_nil _ _ _ _ _ | exact Kd.Q_nil _ _ _ _ _ | exact Kd.S_nil _ _ _ _ _⟩, ⟨by repeat (first | (with_reducible first | exact HB.out | apply bA | apply bN | apply bD) | exact HB.out)⟩⟩
  case round =>
   clear H'; obtain ⟨x0_1, x3_1, HA, HK1, HO_0, HO_3, HB⟩ := hrel
   cases gk with
   | zero => exact absurd HA.out (by simp [word_Words.l0])
   | succ k1 =>
    have H := HA.out
    clear HA; simp only [word_Words.l0] at H
    by_cases c2 : (x0_1.length : Int) ≥ 4
    ·rw [if_pos c2] at H
     have c2b0 : decide (4 ≤ (x0_1.length : Int)) = true := decide_eq_true c2
     have c2b1 : decide (4 ≤ x0_1.length) = true := decide_eq_true (by omega)
     clear c2; by_cases c3 : 4 ≤ (x0_1.length : Int)
     ·rw [if_pos c3] at H
      have c3b0 := eq_true c3
      have c3b1 : decide (4 ≤ (x0_1.length : Int)) = true := decide_eq_true c3
      clear c3; obtain ⟨y148, hy148⟩ : ∃ y_ : List Int, y_ = (x0_1.take 4) := ⟨_, rfl⟩
      replace H : ((word_value.f k1 y148).bind fun t153 => (if x3_1.length < 35184372088832 then (word_Words.l0 k1 (x0_1.drop 4) (x3_1 ++ [(t153) % 4294967296])) else (none))) = some r := by first | (rw [hy148]; with_reducible exact H) | (have H2_ := (Option.bind_some _ _).symm.trans H; rw [hy148]; with_reducible exact H2_) | (have H2_ := (Option.bind_some _ _).symm.trans H; with_reducible exact H2_) | with_reducible exact H | (rw [hy148]; exact H) | exact H
      have Ny148 := Aside0.mk hy148; clear hy148; replace H := Option.bind_eq_some_iff.mp H
      obtain ⟨t153, A40, H⟩ := H
      replace H : (if x3_1.length < 35184372088832 then (word_Words.l0 k1 (x0_1.drop 4) (x3_1 ++ [(t153) % 4294967296])) else (none)) = some r := H
      have A4 := Aside0.mk A40; clear A40; by_cases c5 : x3_1.length < 35184372088832
      ·rw [if_pos c5] at H
       have LMc5 := Aside0.mk c5; clear c5; obtain ⟨y154, hy154⟩ : ∃ y_ : List Int, y_ = (x3_1 ++ [(t153) % 4294967296]) := ⟨_, rfl⟩
       replace H : (word_Words.l0 k1 (x0_1.drop 4) y154) = some r := by first | (rw [hy154]; with_reducible exact H) | (have H2_ := (Option.bind_some _ _).symm.trans H; rw [hy154]; with_reducible exact H2_) | (have H2_ := (Option.bind_some _ _).symm.trans H; with_reducible exact H2_) | with_reducible exact H | (rw [hy154]; exact H) | exact H
       have Ny154 := Aside0.mk hy154; clear hy154; have c6b0 := eq_true (of_decide_eq_true (by first | (with_reducible assumption) | assumption) : 4 ≤ (x0_1.length : Int))
       obtain ⟨y157, hy157⟩ : ∃ y_ : List Int, y_ = (x0_1.drop 4) := ⟨_, rfl⟩
       replace H : (word_Words.l0 k1 y157 y154) = some r := by first | (rw [hy157]; with_reducible exact H) | (have H2_ := (Option.bind_some _ _).symm.trans H; rw [hy157]; with_reducible exact H2_) | (have H2_ := (Option.bind_some _ _).symm.trans H; with_reducible exact H2_) | with_reducible exact H | (rw [hy157]; exact H) | exact H
       have Ny157 := Aside0.mk hy157; clear hy157; have H' := Aside0.mk H; clear H; obtain ⟨Ao7, co7, eo7⟩ := Kd.V_slice HO_0.out
       subst eo7; try go_wp2
       have n0_ := Aside0.mk (Kd.V_drew HO_0.out); have n1_ := Aside0.mk (Kd.R_drew HO_3.out); have n2_ := Aside0.mk (below_drew1 HB.out); clear HO_0; clear HO_3; clear HB; have HO_0 := n0_; have HO_3 := n1_; have HB := n2_; clear n0_ n1_ n2_; have q9 : (4 : Int) ≤ ((x0_1.length : Int) : Int) := of_decide_eq_true (by first | (with_reducible assumption) | assumption)
       obtain ⟨i09, hi09, _, hsz9, _⟩ := info_parts info5
       have hroom9 : x0_1.length ≤ co7 := (Kd.V_reads' HO_0.out).2.1
       have hC9 : Kd.F (Kd.int .u8) _ _ Ao7 x0_1.length x0_1 := (Kd.V_at (base := w.heap.size) HO_0.out).2.2
       have hcut9 := cut_to (P := Try.prog) 22 5 .i64 Try.underlying22 hi09 Ao7 x0_1.length co7 4 (by omega) q9 hroom9
       have hr9 := Kd.F_take (m := 4) hC9 (by omega)
       have hy9 : y148.length = (4 : Int).toNat := (by rw [Ny148.out, List.length_take]; omega)
       rw [← Ny148.out] at hr9; rw [← hy9] at hcut9
       have HO152 := Aside0.mk (show Kd.V (Kd.int .u8) 5 _ w.heap.size _ (.slice Ao7 y148.length co7) y148 from Kd.V_mk (by omega) hr9); have HC152 := Aside0.mk (show y148.length ≤ co7 from by omega); clear hr9 hC9 hroom9 hi09 hsz9; have KY9 := Aside0.mk hy9; clear hy9; replace q9 := eq_true q9
       have q10 : (4 : Int) ≤ ((x0_1.length : Int) : Int) := of_decide_eq_true (by first | (with_reducible assumption) | assumption)
       obtain ⟨i010, hi010, _, hsz10, _⟩ := info_parts info5
       have hroom10 : x0_1.length ≤ co7 := (Kd.V_reads' HO_0.out).2.1
       have hC10 : Kd.F (Kd.int .u8) _ _ Ao7 x0_1.length x0_1 := (Kd.V_at (base := w.heap.size) HO_0.out).2.2
       have hcut10 := cut_from (P := Try.prog) 22 5 .i64 Try.underlying22 hi010 1 hsz10 Ao7 x0_1.length co7 4 (by omega) q10
       have hr10 := Kd.F_cut (m := (4 : Int).toNat) (c := co7) hC10 (by omega) hroom10
       obtain ⟨A10, hA10⟩ : ∃ A1, A1 = (if co7 = (4 : Int).toNat then Ao7 else (Ao7 : Option Addr).map (·.add ((4 : Int).toNat * 1))) := ⟨_, rfl⟩
       obtain ⟨c10, hc10⟩ : ∃ c1, c1 = co7 - (4 : Int).toNat := ⟨_, rfl⟩
       have hy10 : y157.length = x0_1.length - (4 : Int).toNat := (by rw [Ny157.out, List.length_drop] <;> omega)
       rw [show (x0_1).drop (4 : Int).toNat = y157 from Ny157.out.symm] at hr10; replace hr10 : Kd.F (Kd.int .u8) _ _ A10 y157.length y157 := (by rw [hA10]; exact hr10)
       rw [← hy10, ← hA10, ← hc10] at hcut10; have HO161 := Aside0.mk (show Kd.V (Kd.int .u8) 5 _ w.heap.size _ (.slice A10 y157.length c10) y157 from Kd.V_mk (by rw [hy10, hc10]; exact Nat.sub_le_sub_right hroom10 _) hr10)
       have HC161 := Aside0.mk (show y157.length ≤ c10 from by rw [hy10, hc10]; exact Nat.sub_le_sub_right hroom10 _); clear hr10 hC10 hroom10 hi010 hsz10 hc10; have KY10 := Aside0.mk hy10; have KA10 := Aside0.mk hA10; clear hy10 hA10; replace q10 := eq_true q10
       refine start_ (n := 11) (S := fun w' => True) (ds := []) #[false, false, false, false, false, false, false, false, false, false, false] (by kernel_rfl) rfl rfl trivial (fun hHeld => ?_); refine with_tabW word_Words.tab3 word_Words.bits3 (fun HT_ HW_ => ?_)
       generalize wr.drew = w8 at HO_0 HO_3 HB HO152 HO161 hHeld ⊢
       refine pu_ 0 7 (rA [1,10]) HT_ (by kernel_rfl) rfl rfl (fun _ _ _ => id) (.inl ⟨by rfl, fun w' => by go_simp; with_reducible rfl⟩) (by simp only [Act.put, sA, s0, sS, i64_w, i32_w]; rfl) ?_
       refine pu_ 1 8 (rA [2,9]) HT_ (by kernel_rfl) rfl rfl (fun _ _ _ => id) (.inl ⟨by rfl, fun w' => by go_simp; with_reducible rfl⟩) (by simp only [Act.put, sA, s0, sS, i64_w, i32_w]; rfl) ?_
       refine pu_ 2 9 (rA [3,8]) HT_ (by kernel_rfl) rfl rfl (fun _ _ _ => id) (.inl ⟨by rfl, fun w' => by go_simp; with_reducible rfl⟩) (by simp only [Act.put, sA, s0, sS, i64_w, i32_w]; rfl) ?_
       refine pu_ 7 14 (rA [3,4,1,3]) HT_ (by kernel_rfl) rfl rfl (fun _ _ _ => id) (.inl ⟨by rfl, fun w' => by go_simp; with_reducible rfl⟩) (by simp only [Act.put, sA, s0, sS, i64_w, i32_w]; rfl) ?_
       refine pu_ 8 15 (rA [3,4,2,2]) HT_ (by kernel_rfl) rfl rfl (fun _ _ _ => id) (.inl ⟨by rfl, fun w' => by go_simp; with_reducible rfl⟩) (by simp only [Act.put, sA, s0, sS, i64_w, i32_w]; rfl) ?_
       refine one_ (i := 3) (N := some 10) (rA [4,3,2,2]) rfl rfl (one_of HT_.out (by kernel_rfl)) (by decide) (fun K hK => ?_)
       refine goes_ Try.func88 (by kernel_rfl) rfl #[.slice Ao7 y148.length co7] (by first | rfl | (simp [Region.wanted, yielded, *]; done)) rfl rfl (by (try simp only [mT, mC, mN]); first | done | rfl | (simp only [Act.eval, gD, oG, e9]; done) | (simp only [List.length_drop, List.length_take]; rfl)) ?_
       with_reducible refine (word_value.calls k1 _ _ y148 t153 _ ?side1 ?side2 A4.out).mono ?_
       (case side1 => repeat (first | exact (Kd.V_reads' HO152.out).2.2 | (with_reducible refine Kd.C_alloc ?_ _) | (with_reducible refine Kd.C_drewN ?_ _) | (with_reducible refine Kd.C_drew ?_)))
       (case side2 => exact (Kd.V_reads' HO152.out).2.1)
       rintro e w' ⟨rfl, ⟨nd, rfl⟩⟩
       refine ⟨_, rfl, ?_⟩; refine hK.out _ _ trivial (fun hHeld => ?_)
       clear hK K; refine norm_ (a' := ?_) ?_ ?_
       rotate_left
       ·show Act.put _ (some 10) _ = _
        simp only [Act.put, sA, s0, sS, i64_w, i32_w]
        rfl
       refine pu_ 4 11 (rA [5,2,2,2]) HT_ (by kernel_rfl) rfl rfl (fun _ _ _ => id) (.inl ⟨by rfl, fun w' => by go_simp; with_reducible rfl⟩) (by simp only [Act.put, sA, s0, sS, i64_w, i32_w]; rfl) ?_
       refine one_ (i := 5) (N := some 12) (rA [6,1,2,2]) rfl rfl (one_of HT_.out (by kernel_rfl)) (by decide) (fun K hK => ?_)
       refine value_ (w1 := ?_) (v := ?_) (by rfl) rfl ?_ ?_
       rotate_left 2
       ·go_simp
        constructor
        ·rfl
        ·rfl
       refine hK.out _ _ trivial (fun hHeld => ?_)
       clear hK K; refine norm_ (a' := ?_) ?_ ?_
       rotate_left
       ·show Act.put _ (some 12) _ = _
        simp only [Act.put, sA, s0, sS, i64_w, i32_w]
        rfl
       refine one_ (i := 6) (N := some 13) (rA [9,2]) rfl rfl (one_of HT_.out (by kernel_rfl)) (by decide) (fun K hK => ?_)
       refine Kd.R_append_step (Kd.int .u32) (w0 := w) w.heap.size (by rfl) (.tmp 7) (.tmp 12) 41 23 (.int .u32 0) 4 rfl Try.underlying41 info23 rfl (by decide) (by omega) u3 x3_1 ((t153) % 4294967296) [.int .u32 ((t153) % 4294967296)] (fun k_ => (w.heap.size ≤ k_)) (fun _ => False) rfl rfl ?aP (fun _ hk => hk.elim) ?aF ?aO ?aB ?aS ?aL ?_
       (case aP => exact rfl)
       (case aB => exact (by repeat (first | (with_reducible first | exact HB.out | apply bA | apply bN | apply bD) | exact HB.out)))
       (case aF => exact (fun k_ hk => (Nat.le_trans (below_size (by repeat (first | (with_reducible first | exact HB.out | apply bA | apply bN | apply bD) | exact HB.out))) hk)))
       (case aO => exact (by (with_reducible repeat (first | apply rL | apply rN | apply rW)); exact HO_3.out))
       (case aS => exact (below_size (by repeat (first | (with_reducible first | exact HB.out | apply bA | apply bN | apply bD) | exact HB.out))))
       (case aL => have := LMc5.out; omega)
       intro v155 w11 ho hb hg hat; rw [← Ny154.out] at ho
       have n0_ := Aside0.mk (Kd.V_afterv (ok := (fun k_ => (P0_ k_ ∨ w.heap.size ≤ k_))) (by (with_reducible repeat (first | apply Kd.V_alloc | apply Kd.V_drewN | apply Kd.V_drew)); exact HO_0.out) hg hat); have n1_ := Aside0.mk (Kd.V_afterv (ok := (fun k_ => (P0_ k_ ∨ w.heap.size ≤ k_))) (by (with_reducible repeat (first | apply Kd.V_alloc | apply Kd.V_drewN | apply Kd.V_drew)); exact HO152.out) hg hat); have n2_ := Aside0.mk (Kd.V_afterv (ok := (fun k_ => (P0_ k_ ∨ w.heap.size ≤ k_))) (by (with_reducible repeat (first | apply Kd.V_alloc | apply Kd.V_drewN | apply Kd.V_drew)); exact HO161.out) hg hat); have n3_ := Aside0.mk (hb); have n4_ := Aside0.mk (ho); clear HO_0; clear HO152; clear HO161; clear HB; clear HO_3; have HO_0 := n0_; have HO152 := n1_; have HO161 := n2_; have HB := n3_; have HO156 := n4_; clear n0_ n1_ n2_ n3_ n4_; clear ho hb hg hat; refine hK.out _ _ trivial (fun hHeld => ?_)
       clear hK K; refine norm_ (a' := ?_) ?_ ?_
       rotate_left
       ·show Act.put _ (some 13) _ = _
        simp only [Act.put, sA, s0, sS, i64_w, i32_w]
        rfl
       refine pu_ 9 3 (rA [10,1]) HT_ (by kernel_rfl) rfl rfl (fun _ _ _ => id) (.inl ⟨by rfl, fun w' => by go_simp; with_reducible rfl⟩) (by simp only [Act.put, sA, s0, sS, i64_w, i32_w]; rfl) ?_
       refine pu_ 10 0 (rA [11]) HT_ (by kernel_rfl) rfl rfl (fun _ _ _ => id) (.inl ⟨by rfl, fun w' => by go_simp; with_reducible rfl⟩) (by simp only [Act.put, sA, s0, sS, i64_w, i32_w]; rfl) ?_
       refine done_ (done_of HT_.out (by kernel_rfl)) ?_
       try go_wp2
       go_roundg k1
       case measure => have := HK1.out; omega
       case rel => exact ⟨(y157), (y154), H', ⟨by have := HK1.out; omega⟩, ⟨by (with_reducible repeat (first | apply Kd.V_alloc | apply Kd.V_drewN | apply Kd.V_drew)); exact HO161.out⟩, ⟨by (with_reducible repeat (first | apply rL | apply rN | apply rW)); exact HO156.out⟩, ⟨by repeat (first | (with_reducible first | exact HB.out | apply bA | apply bN | apply bD) | exact HB.out)⟩⟩
      ·rw [if_neg c5] at H
       exact absurd H (by simp)
     ·rw [if_neg c3] at H
      exact absurd H (by simp)
    ·rw [if_neg c2] at H
     have c2b0 : decide (4 ≤ (x0_1.length : Int)) = false := decide_eq_false c2
     have c2b1 : decide (4 ≤ x0_1.length) = false := decide_eq_false (by omega)
     clear c2; obtain rfl := Option.some.inj H
     obtain ⟨Ao12, co12, eo12⟩ := Kd.V_slice HO_0.out
     subst eo12; go_wp2
     go_ret
     exact ⟨_, by first | rfl | (simp [errW_none, errW_some] <;> rfl) | (simp [*, errW_none, errW_some] <;> rfl), by (with_reducible repeat (first | apply rL | apply rN | apply rW)); exact HO_3.out, by repeat (first | (with_reducible first | exact HB.out | apply bA | apply bN | apply bD) | exact HB.out)⟩

/-! ### sha_schedule: function 145 -/
def sha_schedule.l0 : Nat → List Int → Int → Option (List Int)
  | 0, _, _ => none
  | k + 1, x3, x4 => if x4 < 64 then (if 0 ≤ (wrap64 (x4 - 15)) then (if (wrap64 (x4 - 15)) < (x3.length : Int) then (if 0 ≤ (wrap64 (x4 - 2)) then (if (wrap64 (x4 - 2)) < (x3.length : Int) then ((word_Rot.f (rd x3 (wrap64 (x4 - 15))) 7).bind fun t167 => ((word_Rot.f (rd x3 (wrap64 (x4 - 15))) 18).bind fun t168 => ((word_Rot.f (rd x3 (wrap64 (x4 - 2))) 17).bind fun t169 => ((word_Rot.f (rd x3 (wrap64 (x4 - 2))) 19).bind fun t170 => (if 0 ≤ (wrap64 (x4 - 7)) then (if (wrap64 (x4 - 7)) < (x3.length : Int) then (if 0 ≤ (wrap64 (x4 - 16)) then (if (wrap64 (x4 - 16)) < (x3.length : Int) then (if x3.length < 35184372088832 then (sha_schedule.l0 k (x3 ++ [((((((Go.bits .xor .u32 (Go.bits .xor .u32 t169 t170) ((rd x3 (wrap64 (x4 - 2))) / 1024)) + (rd x3 (wrap64 (x4 - 7)))) % 4294967296) + (Go.bits .xor .u32 (Go.bits .xor .u32 t167 t168) ((rd x3 (wrap64 (x4 - 15))) / 8))) % 4294967296) + (rd x3 (wrap64 (x4 - 16)))) % 4294967296]) (wrap64 (x4 + 1))) else (none)) else (none)) else (none)) else (none)) else (none)))))) else (none)) else (none)) else (none)) else (none)) else (some x3)
def sha_schedule.f (k : Nat) (l0 : List Int) : Option (List Int) := (word_Words.f k l0).bind fun t162 => (sha_schedule.l0 k t162 16)
theorem sha_schedule.mono_l : ∀ k, (∀ y0 y1, LeO (sha_schedule.l0 k y0 y1) (sha_schedule.l0 (k + 1) y0 y1))
  | 0 => fun _ _ r h => by simp [sha_schedule.l0] at h
  | k + 1 => by
   have ih0 := sha_schedule.mono_l k
   ·intro y0 y1
    unfold sha_schedule.l0
    repeat' first
    | (with_reducible exact ih0 _ _)
    | (with_reducible exact word_Words.mono _ _)
    | (with_reducible exact LeO.refl _)
    | (with_reducible exact LeO.none _)
    | (with_reducible refine LeO.ite ?_ ?_)
    | (with_reducible refine LeO.bind ?_ (fun _ => ?_))
    | exact ih0 _ _
    | exact word_Words.mono _ _
    | exact LeO.none _
    | refine LeO.ite ?_ ?_
    | refine LeO.bind ?_ (fun _ => ?_)
theorem sha_schedule.mono : ∀ a0 k, LeO (sha_schedule.f k a0) (sha_schedule.f (k + 1) a0) := by
  intro a0 k; have ih0 := sha_schedule.mono_l k
  unfold sha_schedule.f
  repeat' first
    | (with_reducible exact ih0 _ _)
    | (with_reducible exact word_Words.mono _ _)
    | (with_reducible exact LeO.refl _)
    | (with_reducible exact LeO.none _)
    | (with_reducible refine LeO.ite ?_ ?_)
    | (with_reducible refine LeO.bind ?_ (fun _ => ?_))
    | exact ih0 _ _
    | exact word_Words.mono _ _
    | exact LeO.none _
    | refine LeO.ite ?_ ?_
    | refine LeO.bind ?_ (fun _ => ?_)
def sha_schedule.T5 : Bool × List (List Nat × List Nat) := (true, [([], []), ([], []), ([1], [1]), ([0, 2], [0, 2]), ([3], [3]), ([], []), ([], []), ([6], [6]), ([5, 7], [5, 7]), ([8], [8]), ([4, 0, 1, 2, 3, 4], [4]), ([9, 10, 0, 1, 2, 3, 4, 5, 6, 7, 8, 9, 10], [9])])
def sha_schedule.B5 : List Nat := [0, 0, 2, 7, 15, 0, 0, 64, 224, 480, 31, 2047]
theorem sha_schedule.tab5 : rtab .any (opsOf Try.f145 5) = sha_schedule.T5 := by kernel_rfl
theorem sha_schedule.bits5 : waitsOk sha_schedule.T5.2 sha_schedule.B5 = true := by kernel_rfl
def sha_schedule.T8 : Bool × List (List Nat × List Nat) := (true, [([], []), ([], []), ([], []), ([], []), ([3], [3]), ([2, 4], [2, 4]), ([5], [5]), ([1, 6], [1, 6]), ([], []), ([7, 8], [7, 8]), ([], []), ([], []), ([11], [11]), ([10, 12], [10, 12]), ([13], [13]), ([9, 14], [9, 14]), ([15], [15]), ([0, 16], [0, 16]), ([17, 17, 0, 1, 2, 3, 4, 5, 6, 7, 8, 9, 10, 11, 12, 13, 14, 15, 16, 17], [0, 2, 10, 17])])
def sha_schedule.B8 : List Nat := [0, 0, 0, 0, 8, 28, 60, 126, 0, 510, 0, 0, 2048, 7168, 15360, 32766, 65534, 131071, 262143]
theorem sha_schedule.tab8 : rtab .any (opsOf Try.f145 8) = sha_schedule.T8 := by kernel_rfl
theorem sha_schedule.bits8 : waitsOk sha_schedule.T8.2 sha_schedule.B8 = true := by kernel_rfl
set_option maxHeartbeats 8000000 in
set_option maxRecDepth 100000 in
theorem sha_schedule.calls (k : Nat) (A0 : Option Addr) (c0 : Nat) (l0 : List Int) (r : List Int) (w : World) (hr0 : Kd.C (Kd.int .u8) w A0 l0.length l0) (hc0 : l0.length ≤ c0) (h : sha_schedule.f k l0 = some r) :
   Calls Try.prog 145 #[.slice A0 l0.length c0] w fun e w' => ∃ v0_ : Value, e = .returned (v0_) ∧ Kd.R (Kd.int .u32) 23 w' w.heap.size (fun _ => True) v0_ r ∧ Below w.heap.size w w' := by
  have HR0 := Aside0.mk hr0; have HC0 := Aside0.mk hc0; clear hr0 hc0; have HB := Aside0.mk (Below.refl w.heap.size w); have H : ((word_Words.f k l0).bind fun t162 => (sha_schedule.l0 k t162 16)) = some r := h
  clear h; replace H := Option.bind_eq_some_iff.mp H
  obtain ⟨t162, A20, H⟩ := H
  replace H : (sha_schedule.l0 k t162 16) = some r := H
  have A2 := Aside0.mk A20; clear A20; have H' := Aside0.mk H; clear H; go_enter Try.func145, Try.ntmps145
  go_wp2_with (first | ((with_reducible refine gate_callee (f := 30) rfl ?_); refine goesL_ (some 10) rfl rfl Try.func30 (by kernel_rfl) rfl #[.slice A0 l0.length c0] rfl (by (try simp only [mT, mC, mN]); first | done | rfl | (simp only [List.length_drop, List.length_take]; rfl)) ?_; (with_reducible refine (word_Words.calls k (fun k_ => k_ < w.heap.size) _ _ l0 t162 _ ?side1 A2.out).mono ?_); (case side1 => exact Kd.V_mk HC0.out (Kd.F_below (Kd.C_F (Kd.heap_int .u8) HR0.out) (by repeat (first | (with_reducible first | exact HB.out | apply bA | apply bN | apply bD) | exact HB.out)))); rintro e w3 ⟨v163, rfl, ho0, hb⟩; refine ⟨_, rfl, ?_⟩; have n0_ := Aside0.mk (Kd.R_lower (Kd.R_mono (ok' := fun k_ => True) ho0 (fun _ hk_ => trivial)) (below_size (by repeat (first | (with_reducible first | exact HB.out | apply bA | apply bN | apply bD) | exact HB.out)))); have n1_ := Aside0.mk (below_step (by repeat (first | (with_reducible first | exact HB.out | apply bA | apply bN | apply bD) | exact HB.out)) hb); clear HB; have HO164 := n0_; have HB := n1_; clear n0_ n1_; (try clear hb); (try clear hb2); (try clear hk); (try clear hi); (try clear ho0)))
  go_loopg [3, 4] k (fun kq v3 v4 w' => ∃ (x3_1 : List Int) (x4_1 : Int), v4 = .int .i64 x4_1 ∧ Aside0 (sha_schedule.l0 kq x3_1 x4_1 = some r) ∧ Aside0 (kq ≤ k) ∧ Aside0 (Kd.R (Kd.int .u32) 23 w' w.heap.size (fun _ => True) v3 x3_1) ∧ Aside0 (Below w.heap.size w w'))
  case atStart => exact ⟨(t162), (16), (by first | rfl | (simp; done) | (simp [*]; done)), H', ⟨Nat.le_refl _⟩, ⟨by (with_reducible repeat (first | apply rL | apply rN | apply rW)); exact HO164.out⟩, ⟨by repeat (first | (with_reducible first | exact HB.out | apply bA | apply bN | apply bD) | exact HB.out)⟩⟩
  case round =>
   clear H'; try clear c1
   try clear p2
   try clear c3
   obtain ⟨x3_1, x4_1, rfl, HA, HK1, HO_3, HB⟩ := hrel
   cases gk with
   | zero => exact absurd HA.out (by simp [sha_schedule.l0])
   | succ k1 =>
    have H := HA.out
    clear HA; simp only [sha_schedule.l0] at H
    by_cases c4 : x4_1 < 64
    ·rw [if_pos c4] at H
     have c4b0 : decide (x4_1 < 64) = true := decide_eq_true c4
     clear c4; obtain ⟨ji5, hji5⟩ : ∃ j_ : Int, (wrap64 (x4_1 - 15)) = j_ := ⟨_, rfl⟩
     replace H : (if 0 ≤ (ji5) then (if (ji5) < (x3_1.length : Int) then (if 0 ≤ (wrap64 (x4_1 - 2)) then (if (wrap64 (x4_1 - 2)) < (x3_1.length : Int) then ((word_Rot.f (rd x3_1 (ji5)) 7).bind fun t167 => ((word_Rot.f (rd x3_1 (ji5)) 18).bind fun t168 => ((word_Rot.f (rd x3_1 (wrap64 (x4_1 - 2))) 17).bind fun t169 => ((word_Rot.f (rd x3_1 (wrap64 (x4_1 - 2))) 19).bind fun t170 => (if 0 ≤ (wrap64 (x4_1 - 7)) then (if (wrap64 (x4_1 - 7)) < (x3_1.length : Int) then (if 0 ≤ (wrap64 (x4_1 - 16)) then (if (wrap64 (x4_1 - 16)) < (x3_1.length : Int) then (if x3_1.length < 35184372088832 then (sha_schedule.l0 k1 (x3_1 ++ [((((((Go.bits .xor .u32 (Go.bits .xor .u32 t169 t170) ((rd x3_1 (wrap64 (x4_1 - 2))) / 1024)) + (rd x3_1 (wrap64 (x4_1 - 7)))) % 4294967296) + (Go.bits .xor .u32 (Go.bits .xor .u32 t167 t168) ((rd x3_1 (ji5)) / 8))) % 4294967296) + (rd x3_1 (wrap64 (x4_1 - 16)))) % 4294967296]) (wrap64 (x4_1 + 1))) else (none)) else (none)) else (none)) else (none)) else (none)))))) else (none)) else (none)) else (none)) else (none)) = some r := by first | (rw [hji5] at H; exact H) | (simp only [hji5] at H ⊢; exact H)
     have hji5w : (IntKind.i64.wrap (x4_1 - 15)) = ji5 := (i64_w _).trans hji5
     by_cases c6 : 0 ≤ (ji5)
     ·rw [if_pos c6] at H
      have c6b0 : decide (0 ≤ (ji5)) = true := decide_eq_true c6
      clear c6; by_cases c7 : (ji5) < (x3_1.length : Int)
      ·rw [if_pos c7] at H
       have c7b0 : decide ((ji5) < (x3_1.length : Int)) = true := decide_eq_true c7
       clear c7; obtain ⟨ji8, hji8⟩ : ∃ j_ : Int, (wrap64 (x4_1 - 2)) = j_ := ⟨_, rfl⟩
       replace H : (if 0 ≤ (ji8) then (if (ji8) < (x3_1.length : Int) then ((word_Rot.f (rd x3_1 (ji5)) 7).bind fun t167 => ((word_Rot.f (rd x3_1 (ji5)) 18).bind fun t168 => ((word_Rot.f (rd x3_1 (ji8)) 17).bind fun t169 => ((word_Rot.f (rd x3_1 (ji8)) 19).bind fun t170 => (if 0 ≤ (wrap64 (x4_1 - 7)) then (if (wrap64 (x4_1 - 7)) < (x3_1.length : Int) then (if 0 ≤ (wrap64 (x4_1 - 16)) then (if (wrap64 (x4_1 - 16)) < (x3_1.length : Int) then (if x3_1.length < 35184372088832 then (sha_schedule.l0 k1 (x3_1 ++ [((((((Go.bits .xor .u32 (Go.bits .xor .u32 t169 t170) ((rd x3_1 (ji8)) / 1024)) + (rd x3_1 (wrap64 (x4_1 - 7)))) % 4294967296) + (Go.bits .xor .u32 (Go.bits .xor .u32 t167 t168) ((rd x3_1 (ji5)) / 8))) % 4294967296) + (rd x3_1 (wrap64 (x4_1 - 16)))) % 4294967296]) (wrap64 (x4_1 + 1))) else (none)) else (none)) else (none)) else (none)) else (none)))))) else (none)) else (none)) = some r := by first | (rw [hji8] at H; exact H) | (simp only [hji8] at H ⊢; exact H)
       have hji8w : (IntKind.i64.wrap (x4_1 - 2)) = ji8 := (i64_w _).trans hji8
       by_cases c9 : 0 ≤ (ji8)
       ·rw [if_pos c9] at H
        have c9b0 : decide (0 ≤ (ji8)) = true := decide_eq_true c9
        clear c9; by_cases c10 : (ji8) < (x3_1.length : Int)
        ·rw [if_pos c10] at H
         have c10b0 : decide ((ji8) < (x3_1.length : Int)) = true := decide_eq_true c10
         clear c10; replace H := Option.bind_eq_some_iff.mp H
         obtain ⟨t167, A110, H⟩ := H
         replace H : ((word_Rot.f (rd x3_1 (ji5)) 18).bind fun t168 => ((word_Rot.f (rd x3_1 (ji8)) 17).bind fun t169 => ((word_Rot.f (rd x3_1 (ji8)) 19).bind fun t170 => (if 0 ≤ (wrap64 (x4_1 - 7)) then (if (wrap64 (x4_1 - 7)) < (x3_1.length : Int) then (if 0 ≤ (wrap64 (x4_1 - 16)) then (if (wrap64 (x4_1 - 16)) < (x3_1.length : Int) then (if x3_1.length < 35184372088832 then (sha_schedule.l0 k1 (x3_1 ++ [((((((Go.bits .xor .u32 (Go.bits .xor .u32 t169 t170) ((rd x3_1 (ji8)) / 1024)) + (rd x3_1 (wrap64 (x4_1 - 7)))) % 4294967296) + (Go.bits .xor .u32 (Go.bits .xor .u32 t167 t168) ((rd x3_1 (ji5)) / 8))) % 4294967296) + (rd x3_1 (wrap64 (x4_1 - 16)))) % 4294967296]) (wrap64 (x4_1 + 1))) else (none)) else (none)) else (none)) else (none)) else (none))))) = some r := H
         have A11 := Aside0.mk A110; clear A110; replace H := Option.bind_eq_some_iff.mp H
         obtain ⟨t168, A120, H⟩ := H
         replace H : ((word_Rot.f (rd x3_1 (ji8)) 17).bind fun t169 => ((word_Rot.f (rd x3_1 (ji8)) 19).bind fun t170 => (if 0 ≤ (wrap64 (x4_1 - 7)) then (if (wrap64 (x4_1 - 7)) < (x3_1.length : Int) then (if 0 ≤ (wrap64 (x4_1 - 16)) then (if (wrap64 (x4_1 - 16)) < (x3_1.length : Int) then (if x3_1.length < 35184372088832 then (sha_schedule.l0 k1 (x3_1 ++ [((((((Go.bits .xor .u32 (Go.bits .xor .u32 t169 t170) ((rd x3_1 (ji8)) / 1024)) + (rd x3_1 (wrap64 (x4_1 - 7)))) % 4294967296) + (Go.bits .xor .u32 (Go.bits .xor .u32 t167 t168) ((rd x3_1 (ji5)) / 8))) % 4294967296) + (rd x3_1 (wrap64 (x4_1 - 16)))) % 4294967296]) (wrap64 (x4_1 + 1))) else (none)) else (none)) else (none)) else (none)) else (none)))) = some r := H
         have A12 := Aside0.mk A120; clear A120; replace H := Option.bind_eq_some_iff.mp H
         obtain ⟨t169, A130, H⟩ := H
         replace H : ((word_Rot.f (rd x3_1 (ji8)) 19).bind fun t170 => (if 0 ≤ (wrap64 (x4_1 - 7)) then (if (wrap64 (x4_1 - 7)) < (x3_1.length : Int) then (if 0 ≤ (wrap64 (x4_1 - 16)) then (if (wrap64 (x4_1 - 16)) < (x3_1.length : Int) then (if x3_1.length < 35184372088832 then (sha_schedule.l0 k1 (x3_1 ++ [((((((Go.bits .xor .u32 (Go.bits .xor .u32 t169 t170) ((rd x3_1 (ji8)) / 1024)) + (rd x3_1 (wrap64 (x4_1 - 7)))) % 4294967296) + (Go.bits .xor .u32 (Go.bits .xor .u32 t167 t168) ((rd x3_1 (ji5)) / 8))) % 4294967296) + (rd x3_1 (wrap64 (x4_1 - 16)))) % 4294967296]) (wrap64 (x4_1 + 1))) else (none)) else (none)) else (none)) else (none)) else (none))) = some r := H
         have A13 := Aside0.mk A130; clear A130; replace H := Option.bind_eq_some_iff.mp H
         obtain ⟨t170, A140, H⟩ := H
         replace H : (if 0 ≤ (wrap64 (x4_1 - 7)) then (if (wrap64 (x4_1 - 7)) < (x3_1.length : Int) then (if 0 ≤ (wrap64 (x4_1 - 16)) then (if (wrap64 (x4_1 - 16)) < (x3_1.length : Int) then (if x3_1.length < 35184372088832 then (sha_schedule.l0 k1 (x3_1 ++ [((((((Go.bits .xor .u32 (Go.bits .xor .u32 t169 t170) ((rd x3_1 (ji8)) / 1024)) + (rd x3_1 (wrap64 (x4_1 - 7)))) % 4294967296) + (Go.bits .xor .u32 (Go.bits .xor .u32 t167 t168) ((rd x3_1 (ji5)) / 8))) % 4294967296) + (rd x3_1 (wrap64 (x4_1 - 16)))) % 4294967296]) (wrap64 (x4_1 + 1))) else (none)) else (none)) else (none)) else (none)) else (none)) = some r := H
         have A14 := Aside0.mk A140; clear A140; obtain ⟨ji15, hji15⟩ : ∃ j_ : Int, (wrap64 (x4_1 - 7)) = j_ := ⟨_, rfl⟩
         replace H : (if 0 ≤ (ji15) then (if (ji15) < (x3_1.length : Int) then (if 0 ≤ (wrap64 (x4_1 - 16)) then (if (wrap64 (x4_1 - 16)) < (x3_1.length : Int) then (if x3_1.length < 35184372088832 then (sha_schedule.l0 k1 (x3_1 ++ [((((((Go.bits .xor .u32 (Go.bits .xor .u32 t169 t170) ((rd x3_1 (ji8)) / 1024)) + (rd x3_1 (ji15))) % 4294967296) + (Go.bits .xor .u32 (Go.bits .xor .u32 t167 t168) ((rd x3_1 (ji5)) / 8))) % 4294967296) + (rd x3_1 (wrap64 (x4_1 - 16)))) % 4294967296]) (wrap64 (x4_1 + 1))) else (none)) else (none)) else (none)) else (none)) else (none)) = some r := by first | (rw [hji15] at H; exact H) | (simp only [hji15] at H ⊢; exact H)
         (try rw [hji15] at A11)
         (try rw [hji15] at A12)
         (try rw [hji15] at A13)
         (try rw [hji15] at A14)
         have hji15w : (IntKind.i64.wrap (x4_1 - 7)) = ji15 := (i64_w _).trans hji15
         by_cases c16 : 0 ≤ (ji15)
         ·rw [if_pos c16] at H
          have c16b0 : decide (0 ≤ (ji15)) = true := decide_eq_true c16
          clear c16; by_cases c17 : (ji15) < (x3_1.length : Int)
          ·rw [if_pos c17] at H
           have c17b0 : decide ((ji15) < (x3_1.length : Int)) = true := decide_eq_true c17
           clear c17; obtain ⟨ji18, hji18⟩ : ∃ j_ : Int, (wrap64 (x4_1 - 16)) = j_ := ⟨_, rfl⟩
           replace H : (if 0 ≤ (ji18) then (if (ji18) < (x3_1.length : Int) then (if x3_1.length < 35184372088832 then (sha_schedule.l0 k1 (x3_1 ++ [((((((Go.bits .xor .u32 (Go.bits .xor .u32 t169 t170) ((rd x3_1 (ji8)) / 1024)) + (rd x3_1 (ji15))) % 4294967296) + (Go.bits .xor .u32 (Go.bits .xor .u32 t167 t168) ((rd x3_1 (ji5)) / 8))) % 4294967296) + (rd x3_1 (ji18))) % 4294967296]) (wrap64 (x4_1 + 1))) else (none)) else (none)) else (none)) = some r := by first | (rw [hji18] at H; exact H) | (simp only [hji18] at H ⊢; exact H)
           (try rw [hji18] at A11)
           (try rw [hji18] at A12)
           (try rw [hji18] at A13)
           (try rw [hji18] at A14)
           have hji18w : (IntKind.i64.wrap (x4_1 - 16)) = ji18 := (i64_w _).trans hji18
           by_cases c19 : 0 ≤ (ji18)
           ·rw [if_pos c19] at H
            have c19b0 : decide (0 ≤ (ji18)) = true := decide_eq_true c19
            clear c19; by_cases c20 : (ji18) < (x3_1.length : Int)
            ·rw [if_pos c20] at H
             have c20b0 : decide ((ji18) < (x3_1.length : Int)) = true := decide_eq_true c20
             clear c20; by_cases c21 : x3_1.length < 35184372088832
             ·rw [if_pos c21] at H
              have LMc21 := Aside0.mk c21; clear c21; obtain ⟨y173, hy173⟩ : ∃ y_ : List Int, y_ = (x3_1 ++ [((((((Go.bits .xor .u32 (Go.bits .xor .u32 t169 t170) ((rd x3_1 (ji8)) / 1024)) + (rd x3_1 (ji15))) % 4294967296) + (Go.bits .xor .u32 (Go.bits .xor .u32 t167 t168) ((rd x3_1 (ji5)) / 8))) % 4294967296) + (rd x3_1 (ji18))) % 4294967296]) := ⟨_, rfl⟩
              replace H : (sha_schedule.l0 k1 y173 (wrap64 (x4_1 + 1))) = some r := by first | (rw [hy173]; with_reducible exact H) | (have H2_ := (Option.bind_some _ _).symm.trans H; rw [hy173]; with_reducible exact H2_) | (have H2_ := (Option.bind_some _ _).symm.trans H; with_reducible exact H2_) | with_reducible exact H | (rw [hy173]; exact H) | exact H
              have Ny173 := Aside0.mk hy173; clear hy173; have H' := Aside0.mk H; clear H; try go_wp2
              have n0_ := Aside0.mk (Kd.R_drew HO_3.out); have n1_ := Aside0.mk (below_drew1 HB.out); clear HO_3; clear HB; have HO_3 := n0_; have HB := n1_; clear n0_ n1_; obtain ⟨Ao23, co23, eo23⟩ := Kd.R_slice HO_3.out
              (first | subst eo23 | (injection eo23 with f1_ f2_ f3_; have f4_ := f1_.symm; have f5_ := f3_.symm; clear f1_ f2_ f3_; subst f4_; subst f5_)); have p165 : 0 ≤ ((ji5) : Int) := of_decide_eq_true (by first | (with_reducible assumption) | assumption)
              have q165 : (ji5) < (x3_1.length : Int) := of_decide_eq_true (by first | (with_reducible assumption) | assumption)
              obtain ⟨ad165, e165, hx165_0⟩ := Kd.at_int (Kd.R_reads' HO_3.out).2.2 (ji5) p165 q165
              cases e165
              replace p165 := eq_true p165
              replace q165 := eq_true q165
              have p166 : 0 ≤ ((ji8) : Int) := of_decide_eq_true (by first | (with_reducible assumption) | assumption)
              have q166 : (ji8) < (x3_1.length : Int) := of_decide_eq_true (by first | (with_reducible assumption) | assumption)
              obtain ⟨ad166, e166, hx166_0⟩ := Kd.at_int (Kd.R_reads' HO_3.out).2.2 (ji8) p166 q166
              obtain rfl : ad165 = ad166 := (by injection e166)
              replace p166 := eq_true p166
              replace q166 := eq_true q166
              refine start_ (n := 12) (S := fun w' => w'.cell? (ad165.add ((ji5)).toNat) = some (.int .u32 (rd x3_1 (ji5))) ∧ w'.cell? (ad165.add ((ji8)).toNat) = some (.int .u32 (rd x3_1 (ji8)))) (ds := []) #[false, false, false, false, false, false, false, false, false, false, false, false] (by kernel_rfl) rfl rfl ⟨hx165_0, hx166_0⟩ (fun hHeld => ?_); refine with_tabW sha_schedule.tab5 sha_schedule.bits5 (fun HT_ HW_ => ?_)
              generalize wr.drew = w22 at HO_3 HB hx165_0 hx166_0 hHeld ⊢
              refine pu_ 0 15 (rA [1,11]) HT_ (by kernel_rfl) rfl rfl (fun _ _ _ => id) (.inl ⟨by rfl, fun w' => by go_simp; with_reducible rfl⟩) (by simp only [Act.put, sA, s0, sS, i64_w, i32_w]; rfl) ?_
              refine pu_ 1 16 (rA [2,10]) HT_ (by kernel_rfl) rfl rfl (fun _ _ _ => id) (.inl ⟨by rfl, fun w' => by go_simp; with_reducible rfl⟩) (by simp only [Act.put, sA, s0, sS, i64_w, i32_w]; rfl) ?_
              refine pu_ 2 17 (rA [3,9]) HT_ (by kernel_rfl) rfl rfl (fun _ _ _ => id) (.inl ⟨by rfl, fun w' => by go_simp; with_reducible rfl⟩) (by simp only [Act.put, sA, s0, sS, i64_w, i32_w]; rfl) ?_
              refine pu_ 3 18 (rA [4,8]) HT_ (by kernel_rfl) rfl rfl (fun _ _ _ => id) (.inl ⟨by rfl, fun w' => by go_simp; with_reducible rfl⟩) (by simp only [Act.put, sA, s0, sS, i64_w, i32_w]; rfl) ?_
              refine pu_ 5 20 (rA [4,1,1,6]) HT_ (by kernel_rfl) rfl rfl (fun _ _ _ => id) (.inl ⟨by rfl, fun w' => by go_simp; with_reducible rfl⟩) (by simp only [Act.put, sA, s0, sS, i64_w, i32_w]; rfl) ?_
              refine pu_ 6 21 (rA [4,1,2,5]) HT_ (by kernel_rfl) rfl rfl (fun _ _ _ => id) (.inl ⟨by rfl, fun w' => by go_simp; with_reducible rfl⟩) (by simp only [Act.put, sA, s0, sS, i64_w, i32_w]; rfl) ?_
              refine pu_ 7 22 (rA [4,1,3,4]) HT_ (by kernel_rfl) rfl rfl (fun _ _ _ => id) (.inl ⟨by rfl, fun w' => by go_simp; with_reducible rfl⟩) (by simp only [Act.put, sA, s0, sS, i64_w, i32_w]; rfl) ?_
              refine pu_ 8 23 (rA [4,1,4,3]) HT_ (by kernel_rfl) rfl rfl (fun _ _ _ => id) (.inl ⟨by rfl, fun w' => by go_simp; with_reducible rfl⟩) (by simp only [Act.put, sA, s0, sS, i64_w, i32_w]; rfl) ?_
              refine take_ (i := 4) (N := some 19) (v := ?_) (a' := ?_) #[true, true, true, true, true, true, true, true, true, false, false, false] rfl rfl (take_ofW HT_.out HW_.out (by kernel_rfl)) (fun _ _ _ h => h) (Or.inl ⟨by rfl, ?_⟩) hHeld ?_ ?_
              rotate_left
              ·rintro w' ⟨s0, s1⟩
               go_simp
               with_reducible rfl
              rotate_left
              ·simp only [Act.put, sA, s0, sS, i64_w, i32_w]
               rfl
              refine pu_ 10 5 (rA [9,1,1,1]) HT_ (by kernel_rfl) rfl rfl (fun _ _ _ => id) (.inl ⟨by rfl, fun w' => by go_simp; with_reducible rfl⟩) (by simp only [Act.put, sA, s0, sS, i64_w, i32_w]; rfl) ?_
              refine take_ (i := 9) (N := some 24) (v := ?_) (a' := ?_) #[true, true, true, true, true, true, true, true, true, true, true, false] rfl rfl (take_ofW HT_.out HW_.out (by kernel_rfl)) (fun _ _ _ h => h) (Or.inl ⟨by rfl, ?_⟩) hHeld ?_ ?_
              rotate_left
              ·rintro w' ⟨s0, s1⟩
               go_simp
               with_reducible rfl
              rotate_left
              ·simp only [Act.put, sA, s0, sS, i64_w, i32_w]
               rfl
              refine pu_ 11 6 (rA [12]) HT_ (by kernel_rfl) rfl rfl (fun _ _ _ => id) (.inl ⟨by rfl, fun w' => by go_simp; with_reducible rfl⟩) (by simp only [Act.put, sA, s0, sS, i64_w, i32_w]; rfl) ?_
              refine done_ (done_of HT_.out (by kernel_rfl)) ?_
              try go_wp2_with (first | ((with_reducible refine gate_callee (f := 27) rfl ?_); refine goesL_ (some 26) rfl rfl Try.func27 (by kernel_rfl) rfl #[.int .u32 (rd x3_1 (ji5)), .int .i64 7] rfl (by (try simp only [mT, mC, mN]); first | done | (simp only [hji5]; rfl) | rfl | (simp only [List.length_drop, List.length_take]; rfl)) ?_; (with_reducible refine (word_Rot.calls (rd x3_1 (ji5)) 7 t167 _ A11.out).mono ?_); rintro e w' ⟨rfl, ⟨nd, rfl⟩⟩; refine ⟨_, rfl, ?_⟩) | ((with_reducible refine gate_callee (f := 27) rfl ?_); refine goesL_ (some 28) rfl rfl Try.func27 (by kernel_rfl) rfl #[.int .u32 (rd x3_1 (ji5)), .int .i64 18] rfl (by (try simp only [mT, mC, mN]); first | done | (simp only [hji5]; rfl) | rfl | (simp only [List.length_drop, List.length_take]; rfl)) ?_; (with_reducible refine (word_Rot.calls (rd x3_1 (ji5)) 18 t168 _ A12.out).mono ?_); rintro e w' ⟨rfl, ⟨nd, rfl⟩⟩; refine ⟨_, rfl, ?_⟩) | ((with_reducible refine gate_callee (f := 27) rfl ?_); refine goesL_ (some 34) rfl rfl Try.func27 (by kernel_rfl) rfl #[.int .u32 (rd x3_1 (ji8)), .int .i64 17] rfl (by (try simp only [mT, mC, mN]); first | done | (simp only [hji8]; rfl) | rfl | (simp only [List.length_drop, List.length_take]; rfl)) ?_; (with_reducible refine (word_Rot.calls (rd x3_1 (ji8)) 17 t169 _ A13.out).mono ?_); rintro e w' ⟨rfl, ⟨nd, rfl⟩⟩; refine ⟨_, rfl, ?_⟩) | ((with_reducible refine gate_callee (f := 27) rfl ?_); refine goesL_ (some 36) rfl rfl Try.func27 (by kernel_rfl) rfl #[.int .u32 (rd x3_1 (ji8)), .int .i64 19] rfl (by (try simp only [mT, mC, mN]); first | done | (simp only [hji8]; rfl) | rfl | (simp only [List.length_drop, List.length_take]; rfl)) ?_; (with_reducible refine (word_Rot.calls (rd x3_1 (ji8)) 19 t170 _ A14.out).mono ?_); rintro e w' ⟨rfl, ⟨nd, rfl⟩⟩; refine ⟨_, rfl, ?_⟩))
              (try (rw [drewN_self w22]; generalize hq_ : World.drewN w22 _ = w22; have n0_ : Aside0 (Kd.R (Kd.int .u32) 23 w22 w.heap.size (fun _ => True) (.slice (some ad165) x3_1.length co23) x3_1) := ⟨by rw [← hq_]; exact (by (with_reducible repeat (first | apply rL | apply rN | apply rW)); exact HO_3.out)⟩; have n1_ : Aside0 (Below w.heap.size w w22) := ⟨by rw [← hq_]; exact (by repeat (first | (with_reducible first | exact HB.out | apply bA | apply bN | apply bD) | exact HB.out))⟩; clear HO_3 HB hq_; have HO_3 := n0_; have HB := n1_; clear n0_ n1_))
              have n0_ := Aside0.mk (Kd.R_drew HO_3.out); have n1_ := Aside0.mk (below_drew1 HB.out); clear HO_3; clear HB; have HO_3 := n0_; have HB := n1_; clear n0_ n1_; have p171 : 0 ≤ ((ji15) : Int) := of_decide_eq_true (by first | (with_reducible assumption) | assumption)
              have q171 : (ji15) < (x3_1.length : Int) := of_decide_eq_true (by first | (with_reducible assumption) | assumption)
              obtain ⟨ad171, e171, hx171_0⟩ := Kd.at_int (Kd.R_reads' HO_3.out).2.2 (ji15) p171 q171
              obtain rfl : ad165 = ad171 := (by injection e171)
              replace p171 := eq_true p171
              replace q171 := eq_true q171
              have p172 : 0 ≤ ((ji18) : Int) := of_decide_eq_true (by first | (with_reducible assumption) | assumption)
              have q172 : (ji18) < (x3_1.length : Int) := of_decide_eq_true (by first | (with_reducible assumption) | assumption)
              obtain ⟨ad172, e172, hx172_0⟩ := Kd.at_int (Kd.R_reads' HO_3.out).2.2 (ji18) p172 q172
              obtain rfl : ad165 = ad172 := (by injection e172)
              replace p172 := eq_true p172
              replace q172 := eq_true q172
              refine start_ (n := 19) (S := fun w' => w'.cell? (ad165.add ((ji15)).toNat) = some (.int .u32 (rd x3_1 (ji15))) ∧ w'.cell? (ad165.add ((ji18)).toNat) = some (.int .u32 (rd x3_1 (ji18)))) (ds := [16, 17]) #[false, false, false, false, false, false, false, false, false, false, false, false, false, false, false, false, false, false, false] (by kernel_rfl) rfl rfl ⟨hx171_0, hx172_0⟩ (fun hHeld => ?_); refine with_tabW sha_schedule.tab8 sha_schedule.bits8 (fun HT_ HW_ => ?_)
              generalize w22.drew = w24 at HO_3 HB hx171_0 hx172_0 hHeld ⊢
              refine pu_ 0 41 (rA [1,18]) HT_ (by kernel_rfl) rfl rfl (fun _ _ _ => id) (.inl ⟨by rfl, fun w' => by go_simp; with_reducible rfl⟩) (by simp only [Act.put, sA, s0, sS, i64_w, i32_w]; rfl) ?_
              refine pu_ 1 42 (rA [2,17]) HT_ (by kernel_rfl) rfl rfl (fun _ _ _ => id) (.inl ⟨by rfl, fun w' => by go_simp; with_reducible rfl⟩) (by simp only [Act.put, sA, s0, sS, i64_w, i32_w]; rfl) ?_
              refine pu_ 2 43 (rA [3,16]) HT_ (by kernel_rfl) rfl rfl (fun _ _ _ => id) (.inl ⟨by rfl, fun w' => by go_simp; with_reducible rfl⟩) (by simp only [Act.put, sA, s0, sS, i64_w, i32_w]; rfl) ?_
              refine pu_ 3 44 (rA [4,15]) HT_ (by kernel_rfl) rfl rfl (fun _ _ _ => id) (.inl ⟨by rfl, fun w' => by go_simp; with_reducible rfl⟩) (by simp only [Act.put, sA, s0, sS, i64_w, i32_w]; rfl) ?_
              refine pu_ 4 45 (rA [5,14]) HT_ (by kernel_rfl) rfl rfl (fun _ _ _ => id) (.inl ⟨by rfl, fun w' => by go_simp; with_reducible rfl⟩) (by simp only [Act.put, sA, s0, sS, i64_w, i32_w]; rfl) ?_
              refine pu_ 5 46 (rA [6,13]) HT_ (by kernel_rfl) rfl rfl (fun _ _ _ => id) (.inl ⟨by rfl, fun w' => by go_simp; with_reducible rfl⟩) (by simp only [Act.put, sA, s0, sS, i64_w, i32_w]; rfl) ?_
              refine pu_ 8 49 (rA [6,2,1,10]) HT_ (by kernel_rfl) rfl rfl (fun _ _ _ => id) (.inl ⟨by rfl, fun w' => by go_simp; with_reducible rfl⟩) (by simp only [Act.put, sA, s0, sS, i64_w, i32_w]; rfl) ?_
              refine pu_ 10 51 (rA [6,2,1,1,1,8]) HT_ (by kernel_rfl) rfl rfl (fun _ _ _ => id) (.inl ⟨by rfl, fun w' => by go_simp; with_reducible rfl⟩) (by simp only [Act.put, sA, s0, sS, i64_w, i32_w]; rfl) ?_
              refine pu_ 11 52 (rA [6,2,1,1,2,7]) HT_ (by kernel_rfl) rfl rfl (fun _ _ _ => id) (.inl ⟨by rfl, fun w' => by go_simp; with_reducible rfl⟩) (by simp only [Act.put, sA, s0, sS, i64_w, i32_w]; rfl) ?_
              refine pu_ 12 53 (rA [6,2,1,1,3,6]) HT_ (by kernel_rfl) rfl rfl (fun _ _ _ => id) (.inl ⟨by rfl, fun w' => by go_simp; with_reducible rfl⟩) (by simp only [Act.put, sA, s0, sS, i64_w, i32_w]; rfl) ?_
              refine pu_ 13 54 (rA [6,2,1,1,4,5]) HT_ (by kernel_rfl) rfl rfl (fun _ _ _ => id) (.inl ⟨by rfl, fun w' => by go_simp; with_reducible rfl⟩) (by simp only [Act.put, sA, s0, sS, i64_w, i32_w]; rfl) ?_
              refine take_ (i := 6) (N := some 47) (v := ?_) (a' := ?_) #[true, true, true, true, true, true, true, false, true, false, true, true, true, true, false, false, false, false, false] rfl rfl (take_ofW HT_.out HW_.out (by kernel_rfl)) (fun _ _ _ h => h) (Or.inl ⟨by rfl, ?_⟩) hHeld ?_ ?_
              rotate_left
              ·rintro w' ⟨s0, s1⟩
               go_simp
               with_reducible rfl
              rotate_left
              ·simp only [Act.put, sA, s0, sS, i64_w, i32_w]
               rfl
              refine pu_ 7 48 (rA [9,1,4,5]) HT_ (by kernel_rfl) rfl rfl (fun _ _ _ => id) (.inl ⟨by rfl, fun w' => by go_simp; with_reducible rfl⟩) (by simp only [Act.put, sA, s0, sS, i64_w, i32_w]; rfl) ?_
              refine pu_ 9 50 (rA [14,5]) HT_ (by kernel_rfl) rfl rfl (fun _ _ _ => id) (.inl ⟨by rfl, fun w' => by go_simp; with_reducible rfl⟩) (by simp only [Act.put, sA, s0, sS, i64_w, i32_w]; rfl) ?_
              refine take_ (i := 14) (N := some 55) (v := ?_) (a' := ?_) #[true, true, true, true, true, true, true, true, true, true, true, true, true, true, true, false, false, false, false] rfl rfl (take_ofW HT_.out HW_.out (by kernel_rfl)) (fun _ _ _ h => h) (Or.inl ⟨by rfl, ?_⟩) hHeld ?_ ?_
              rotate_left
              ·rintro w' ⟨s0, s1⟩
               go_simp
               with_reducible rfl
              rotate_left
              ·simp only [Act.put, sA, s0, sS, i64_w, i32_w]
               rfl
              refine pu_ 15 56 (rA [16,3]) HT_ (by kernel_rfl) rfl rfl (fun _ _ _ => id) (.inl ⟨by rfl, fun w' => by go_simp; with_reducible rfl⟩) (by simp only [Act.put, sA, s0, sS, i64_w, i32_w]; rfl) ?_
              refine last_ (i := 16) (N := some 57) #[true, true, true, true, true, true, true, true, true, true, true, true, true, true, true, true, true, false, false] rfl rfl (one_of HT_.out (by kernel_rfl)) (by decide) (fun K hK => ?_)
              refine value_ (w1 := ?_) (v := ?_) (by rfl) rfl ?_ ?_
              rotate_left 2
              ·go_simp
               constructor
               ·rfl
               ·rfl
              refine hK.out _ _ ?_
              clear hK K; refine norm_ (a' := ?_) ?_ ?_
              rotate_left
              ·show Act.put _ (some 57) _ = _
               simp only [Act.put, sA, s0, sS, i64_w, i32_w]
               rfl
              refine last_ (i := 17) (N := some 58) #[true, true, true, true, true, true, true, true, true, true, true, true, true, true, true, true, true, true, false] rfl rfl (one_of HT_.out (by kernel_rfl)) (by decide) (fun K hK => ?_)
              refine Kd.R_append_step (Kd.int .u32) (w0 := w) w.heap.size (by rfl) (.tmp 41) (.tmp 57) 41 23 (.int .u32 0) 4 rfl Try.underlying41 info23 rfl (by decide) (by omega) (.slice (some ad165) x3_1.length co23) x3_1 (((((((Go.bits .xor .u32 (Go.bits .xor .u32 t169 t170) ((rd x3_1 (ji8)) / 1024)) + (rd x3_1 (ji15))) % 4294967296) + (Go.bits .xor .u32 (Go.bits .xor .u32 t167 t168) ((rd x3_1 (ji5)) / 8))) % 4294967296) + (rd x3_1 (ji18))) % 4294967296) [.int .u32 (((((((Go.bits .xor .u32 (Go.bits .xor .u32 t169 t170) ((rd x3_1 (ji8)) / 1024)) + (rd x3_1 (ji15))) % 4294967296) + (Go.bits .xor .u32 (Go.bits .xor .u32 t167 t168) ((rd x3_1 (ji5)) / 8))) % 4294967296) + (rd x3_1 (ji18))) % 4294967296)] (fun _ => True) (fun _ => False) rfl rfl ?aP (fun _ hk => hk.elim) ?aF ?aO ?aB ?aS ?aL ?_
              (case aP => exact rfl)
              (case aB => exact (by repeat (first | (with_reducible first | exact HB.out | apply bA | apply bN | apply bD) | exact HB.out)))
              (case aF => exact (fun _ _ => trivial))
              (case aO => exact (by (with_reducible repeat (first | apply rL | apply rN | apply rW)); exact HO_3.out))
              (case aS => exact (below_size (by repeat (first | (with_reducible first | exact HB.out | apply bA | apply bN | apply bD) | exact HB.out))))
              (case aL => have := LMc21.out; omega)
              intro v174 w25 ho hb hg hat; rw [← Ny173.out] at ho
              have n0_ := Aside0.mk (hb); have n1_ := Aside0.mk (ho); clear HB; clear HO_3; have HB := n0_; have HO175 := n1_; clear n0_ n1_; clear ho hb hg hat; refine hK.out _ _ ?_
              clear hK K; refine norm_ (a' := ?_) ?_ ?_
              rotate_left
              ·show Act.put _ (some 58) _ = _
               simp only [Act.put, sA, s0, sS, i64_w, i32_w]
               rfl
              refine pu_ 18 3 (rA [19]) HT_ (by kernel_rfl) rfl rfl (fun _ _ _ => id) (.inl ⟨by rfl, fun w' => by go_simp; with_reducible rfl⟩) (by simp only [Act.put, sA, s0, sS, i64_w, i32_w]; rfl) ?_
              refine done_ (done_of HT_.out (by kernel_rfl)) ?_
              try go_wp2
              go_roundg k1
              case measure => have := HK1.out; omega
              case rel => exact ⟨(y173), (wrap64 (x4_1 + 1)), (by first | rfl | (simp; done) | (simp [*]; done)), H', ⟨by have := HK1.out; omega⟩, ⟨by (with_reducible repeat (first | apply rL | apply rN | apply rW)); exact HO175.out⟩, ⟨by repeat (first | (with_reducible first | exact HB.out | apply bA | apply bN | apply bD) | exact HB.out)⟩⟩
             ·rw [if_neg c21] at H
              exact absurd H (by simp)
            ·rw [if_neg c20] at H
             exact absurd H (by simp)
           ·rw [if_neg c19] at H
            exact absurd H (by simp)
          ·rw [if_neg c17] at H
           exact absurd H (by simp)
         ·rw [if_neg c16] at H
          exact absurd H (by simp)
        ·rw [if_neg c10] at H
         exact absurd H (by simp)
       ·rw [if_neg c9] at H
        exact absurd H (by simp)
      ·rw [if_neg c7] at H
       exact absurd H (by simp)
     ·rw [if_neg c6] at H
      exact absurd H (by simp)
    ·rw [if_neg c4] at H
     have c4b0 : decide (x4_1 < 64) = false := decide_eq_false c4
     clear c4; obtain rfl := Option.some.inj H
     go_wp2
     go_ret
     exact ⟨_, by first | rfl | (simp [errW_none, errW_some] <;> rfl) | (simp [*, errW_none, errW_some] <;> rfl), by (with_reducible repeat (first | apply rL | apply rN | apply rW)); exact HO_3.out, by repeat (first | (with_reducible first | exact HB.out | apply bA | apply bN | apply bD) | exact HB.out)⟩

/-! ### sha_turned: function 146 -/
def sha_turned.f (a0 : Int) (a1 : Int) (a2 : Int) (a3 : Int) : Option (Int) := (word_Rot.f a0 a1).bind fun t176 => ((word_Rot.f a0 a2).bind fun t177 => ((word_Rot.f a0 a3).bind fun t178 => (some (Go.bits .xor .u32 (Go.bits .xor .u32 t176 t177) t178))))
set_option maxHeartbeats 8000000 in
set_option maxRecDepth 100000 in
theorem sha_turned.calls (a0 : Int) (a1 : Int) (a2 : Int) (a3 : Int) (r : Int) (w : World) (h : sha_turned.f a0 a1 a2 a3 = some r) :
   Calls Try.prog 146 #[.int .u32 a0, .int .i64 a1, .int .i64 a2, .int .i64 a3] w fun e w' => e = .returned (.int .u32 r) ∧ Drawn0 w w' := by
  have H : ((word_Rot.f a0 a1).bind fun t176 => ((word_Rot.f a0 a2).bind fun t177 => ((word_Rot.f a0 a3).bind fun t178 => (some (Go.bits .xor .u32 (Go.bits .xor .u32 t176 t177) t178))))) = some r := h
  clear h; replace H := Option.bind_eq_some_iff.mp H
  obtain ⟨t176, A50, H⟩ := H
  replace H : ((word_Rot.f a0 a2).bind fun t177 => ((word_Rot.f a0 a3).bind fun t178 => (some (Go.bits .xor .u32 (Go.bits .xor .u32 t176 t177) t178)))) = some r := H
  have A5 := Aside0.mk A50; clear A50; replace H := Option.bind_eq_some_iff.mp H
  obtain ⟨t177, A60, H⟩ := H
  replace H : ((word_Rot.f a0 a3).bind fun t178 => (some (Go.bits .xor .u32 (Go.bits .xor .u32 t176 t177) t178))) = some r := H
  have A6 := Aside0.mk A60; clear A60; replace H := Option.bind_eq_some_iff.mp H
  obtain ⟨t178, A70, H⟩ := H
  replace H : (some (Go.bits .xor .u32 (Go.bits .xor .u32 t176 t177) t178)) = some r := H
  have A7 := Aside0.mk A70; clear A70; obtain rfl := Option.some.inj H
  go_enter Try.func146, Try.ntmps146
  go_wp2_with (first | ((with_reducible refine gate_callee (f := 27) rfl ?_); refine goesL_ (some 11) rfl rfl Try.func27 (by kernel_rfl) rfl #[.int .u32 a0, .int .i64 a1] rfl (by (try simp only [mT, mC, mN]); first | done | rfl | (simp only [List.length_drop, List.length_take]; rfl)) ?_; (with_reducible refine (word_Rot.calls a0 a1 t176 _ A5.out).mono ?_); rintro e w' ⟨rfl, ⟨nd, rfl⟩⟩; refine ⟨_, rfl, ?_⟩) | ((with_reducible refine gate_callee (f := 27) rfl ?_); refine goesL_ (some 14) rfl rfl Try.func27 (by kernel_rfl) rfl #[.int .u32 a0, .int .i64 a2] rfl (by (try simp only [mT, mC, mN]); first | done | rfl | (simp only [List.length_drop, List.length_take]; rfl)) ?_; (with_reducible refine (word_Rot.calls a0 a2 t177 _ A6.out).mono ?_); rintro e w' ⟨rfl, ⟨nd, rfl⟩⟩; refine ⟨_, rfl, ?_⟩) | ((with_reducible refine gate_callee (f := 27) rfl ?_); refine goesL_ (some 18) rfl rfl Try.func27 (by kernel_rfl) rfl #[.int .u32 a0, .int .i64 a3] rfl (by (try simp only [mT, mC, mN]); first | done | rfl | (simp only [List.length_drop, List.length_take]; rfl)) ?_; (with_reducible refine (word_Rot.calls a0 a3 t178 _ A7.out).mono ?_); rintro e w' ⟨rfl, ⟨nd, rfl⟩⟩; refine ⟨_, rfl, ?_⟩))
  go_ret
  exact ⟨by first | rfl | (simp; done) | (simp [*]; done), by repeat (first | exact Drawn0.refl _ | apply Drawn0.step)⟩

end Go.Proofs.Ytnpkhkhlofkbhaa.PMacSymbolic
