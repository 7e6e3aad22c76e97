/- A line read: the document's. -/
import Derived.Test.YtagfmppjlfhmeaaGreatDoorPkS

namespace Go.Proofs.YtagfmppjlfhmeaaGreatDoor
open Go.RowKit Go.Dl
attribute [local irreducible] Tri SCall TSem ECall Drawn DFun QSem PSem PCall GCall MCall Round Weak dloadE OW DWl Tells IntKind.wrap Retold ESem
def fa (s sep : ByteArray) : Nat → Int
  | 0 => -1
  | i + 1 => bif (bif decide (fa s sep i < 0) then s.extract i (i + 3) == sep else false) then (i : Int) else fa s sep i
theorem fa_none {s sep : ByteArray} : ∀ {n : Nat}, (∀ j, j < n → (s.extract j (j + 3) == sep) = false) → fa s sep n = -1
  | 0, _ => rfl
  | n + 1, h => by
    have ih := fa_none (n := n) fun j hj => h j (Nat.lt_succ_of_lt hj)
    rw [fa, ih, h n (Nat.lt_succ_self n)]; rfl
theorem fa_hit {s sep : ByteArray} {k : Nat} (h : (s.extract k (k + 3) == sep) = true) (hn : ∀ j, j < k → (s.extract j (j + 3) == sep) = false) : ∀ d : Nat, fa s sep (k + 1 + d) = k
  | 0 => by rw [Nat.add_zero, fa, fa_none hn, h]; rfl
  | d + 1 => by
    have ih := fa_hit h hn d
    rw [show k + 1 + (d + 1) = (k + 1 + d) + 1 by omega, fa, ih, decide_eq_false (by omega)]; rfl
theorem fa_lo {s sep : ByteArray} : ∀ n : Nat, -1 ≤ fa s sep n ∧ fa s sep n < n
  | 0 => ⟨Int.le_refl _, by show (-1 : Int) < 0; decide⟩
  | n + 1 => by
    have ih := fa_lo (s := s) (sep := sep) n
    rw [fa]
    cases (bif decide (fa s sep n < 0) then s.extract n (n + 3) == sep else false)
    · exact ⟨ih.1, by show fa s sep n < _; omega⟩
    · exact ⟨by show -1 ≤ (n : Int); omega, by show (n : Int) < _; omega⟩
def atD (s : ByteArray) : Int := fa s isB (s.size - 2)
def toD (s : ByteArray) : Int := fa s toB (s.size - 2)
def pthD (s : ByteArray) : ByteArray := s.extract 2 (atD s).toNat
def sdD (s : ByteArray) : ByteArray := s.extract ((atD s).toNat + 3) s.size
def wsD (s : ByteArray) : ByteArray := s.extract ((atD s).toNat + 3) (toD s).toNat
def isD (s : ByteArray) : ByteArray := s.extract ((toD s).toNat + 3) s.size
def readD (s : ByteArray) : Ch × Bool :=
  bif decide (atD s < 2) then (ch0, false)
  else bif byteAt s 0 == 43 then okC ⟨pthD s, false, emB, true, sdD s⟩ s
  else bif byteAt s 0 == 45 then okC ⟨pthD s, true, sdD s, false, emB⟩ s
  else bif byteAt s 0 == 126 then (bif decide (toD s < atD s + 3) then (⟨pthD s, false, emB, false, emB⟩, false) else okC ⟨pthD s, true, wsD s, true, isD s⟩ s)
  else (⟨pthD s, false, emB, false, emB⟩, false)
theorem readD_ok {s : ByteArray} (h : (readD s).2 = true) : oneB (readD s).1 = true ∧ lineC (readD s).1 = s := by
  unfold readD at h ⊢
  cases k0 : decide (atD s < 2) with
  | true => rw [k0] at h; cases h
  | false =>
    rw [k0] at h
    cases k1 : byteAt s 0 == 43 with
    | true => rw [k1] at h; exact ok_ok h
    | false =>
      rw [k1] at h
      cases k2 : byteAt s 0 == 45 with
      | true => rw [k2] at h; exact ok_ok h
      | false =>
        rw [k2] at h
        cases k3 : byteAt s 0 == 126 with
        | false => rw [k3] at h; cases h
        | true =>
          rw [k3] at h
          cases k4 : decide (toD s < atD s + 3) with
          | true => rw [k4] at h; cases h
          | false => rw [k4] at h; exact ok_ok h
theorem ex_hit (a sep b : ByteArray) (hs : sep.size = 3) : ((a ++ sep ++ b).extract a.size (a.size + 3) == sep) = true := by
  refine ba_eq.2 ?_
  rw [ByteArray.append_assoc]
  have h1 := @ByteArray.extract_append_size_add a (sep ++ b) 0 3
  rw [Nat.add_zero] at h1
  rw [h1]
  exact ByteArray.extract_append_eq_left hs.symm
theorem ex_miss {x : UInt8} {a sep b : ByteArray} (hx : sep.data.toList = [32, x, 32]) (h32 : x ≠ 32) (hno : No x a) {j : Nat} (hj : j < a.size) : ((a ++ sep ++ b).extract j (j + 3) == sep) = false := by
  refine Bool.eq_false_iff.2 fun h => ?_
  have e := congrArg (fun z : ByteArray => z.data.toList[1]?) (ba_eq.1 h)
  simp only [hx] at e
  rw [ByteArray.data_extract, Array.toList_extract] at e
  have e2 : (a ++ sep ++ b).data.toList[j + 1]? = some x := by
    have : (List.extract (a ++ sep ++ b).data.toList j (j + 3))[1]? = some x := e
    rw [List.extract_eq_take_drop, List.getElem?_take] at this
    split at this
    · rw [List.getElem?_drop] at this; exact this
    · cases this
  rw [ByteArray.append_assoc, ByteArray.toList_data_append, ByteArray.toList_data_append, hx] at e2
  have hl : a.data.toList.length = a.size := ba_len a
  by_cases h2 : j + 1 < a.data.toList.length
  · rw [List.getElem?_append_left h2] at e2
    exact hno x (List.mem_of_getElem? e2) rfl
  · rw [List.getElem?_append_right (by omega), show j + 1 - a.data.toList.length = 0 by omega] at e2
    exact h32 (Option.some.inj e2).symm
theorem fa_sep {x : UInt8} {a sep b : ByteArray} (hs : sep.data.toList = [32, x, 32]) (h32 : x ≠ 32) (hno : No x a) : fa (a ++ sep ++ b) sep ((a ++ sep ++ b).size - 2) = a.size := by
  have h3 : sep.size = 3 := by rw [← ba_len, hs]; rfl
  have e : (a ++ sep ++ b).size - 2 = a.size + 1 + b.size := by rw [ByteArray.size_append, ByteArray.size_append]; omega
  rw [e]
  exact fa_hit (ex_hit a sep b h3) (fun j hj => ex_miss hs h32 hno hj) b.size
theorem hd_0 (x : UInt8) (l : List UInt8) (b : ByteArray) : byteAt ((⟨(x :: l).toArray⟩ : ByteArray) ++ b) 0 = (x.toNat : Int) := by
  unfold byteAt
  rw [ByteArray.toList_data_append]; rfl
theorem pth_of {a p r : ByteArray} (ha : a.size = 2) : (a ++ p ++ r).extract 2 (a.size + p.size) = p := by
  have h1 := @ByteArray.extract_append_size_add a (p ++ r) 0 p.size
  rw [Nat.add_zero, ha] at h1
  rw [ByteArray.append_assoc, ha, h1]
  exact ByteArray.extract_append_eq_left rfl
theorem rest_of {a s b : ByteArray} (hs : s.size = 3) : (a ++ s ++ b).extract (a.size + 3) (a ++ s ++ b).size = b := by
  have e : (a ++ s).size = a.size + 3 := by rw [ByteArray.size_append, hs]
  exact ByteArray.extract_append_eq_right e.symm ByteArray.size_append
theorem lineD {c : Ch} (h : oneB c = true) : readD (lineC c) = (c, true) := by
  have hp := one_pl h
  have hb := one_cs h
  have n1 : ∀ a : ByteArray, No 61 a → No 61 (a ++ c.p) := fun a ha => ha.app (plain_no hp.p 61 n61)
  have z : ∀ a : ByteArray, a.size = 2 → (a ++ c.p).size = 2 + c.p.size := fun a ha => by rw [ByteArray.size_append, ha]
  rcases hb with e | e | e
  · have hl : lineC c = plusB ++ c.p ++ isB ++ c.is := by rw [e]; rfl
    have hA : atD (lineC c) = ((2 + c.p.size : Nat) : Int) := by
      unfold atD
      rw [hl, fa_sep (x := 61) rfl (by decide) (n1 plusB (by unfold No plusB; decide)), z plusB rfl]
    have h0 : byteAt (lineC c) 0 = 43 := by rw [hl, ByteArray.append_assoc, ByteArray.append_assoc]; exact hd_0 43 [32] _
    have hP : pthD (lineC c) = c.p := by
      unfold pthD; rw [hA, Int.toNat_natCast, hl, ByteArray.append_assoc]; exact pth_of (a := plusB) rfl
    have hS : sdD (lineC c) = c.is := by
      unfold sdD; rw [hA, Int.toNat_natCast, hl, ← z plusB rfl]; exact rest_of rfl
    unfold readD
    rw [decide_eq_false (by rw [hA]; omega), h0, hP, hS]
    show okC ⟨c.p, false, emB, true, c.is⟩ (lineC c) = _
    rw [← e]; exact ok_c h
  · have hl : lineC c = minusB ++ c.p ++ isB ++ c.was := by rw [e]; rfl
    have hA : atD (lineC c) = ((2 + c.p.size : Nat) : Int) := by
      unfold atD
      rw [hl, fa_sep (x := 61) rfl (by decide) (n1 minusB (by unfold No minusB; decide)), z minusB rfl]
    have h0 : byteAt (lineC c) 0 = 45 := by rw [hl, ByteArray.append_assoc, ByteArray.append_assoc]; exact hd_0 45 [32] _
    have hP : pthD (lineC c) = c.p := by
      unfold pthD; rw [hA, Int.toNat_natCast, hl, ByteArray.append_assoc]; exact pth_of (a := minusB) rfl
    have hS : sdD (lineC c) = c.was := by
      unfold sdD; rw [hA, Int.toNat_natCast, hl, ← z minusB rfl]; exact rest_of rfl
    unfold readD
    rw [decide_eq_false (by rw [hA]; omega), h0, hP, hS]
    show okC ⟨c.p, true, c.was, false, emB⟩ (lineC c) = _
    rw [← e]; exact ok_c h
  · have hl : lineC c = wavB ++ c.p ++ isB ++ (c.was ++ toB ++ c.is) := by
      rw [e]
      show wavB ++ c.p ++ isB ++ c.was ++ toB ++ c.is = _
      simp only [ByteArray.append_assoc]
    have hl2 : lineC c = (wavB ++ c.p ++ isB ++ c.was) ++ toB ++ c.is := by rw [e]; rfl
    have hA : atD (lineC c) = ((2 + c.p.size : Nat) : Int) := by
      unfold atD
      rw [hl, fa_sep (x := 61) rfl (by decide) (n1 wavB (by unfold No wavB; decide)), z wavB rfl]
    have zz : (wavB ++ c.p ++ isB ++ c.was).size = 2 + c.p.size + 3 + c.was.size := by
      rw [ByteArray.size_append, ByteArray.size_append, z wavB rfl]; rfl
    have hT : toD (lineC c) = ((2 + c.p.size + 3 + c.was.size : Nat) : Int) := by
      unfold toD
      rw [hl2, fa_sep (x := 62) rfl (by decide) ((((show No 62 wavB by unfold No wavB; decide).app (plain_no hp.p 62 n62)).app (show No 62 isB by unfold No isB; decide)).app (plain_no hp.w 62 n62)), zz]
    have h0 : byteAt (lineC c) 0 = 126 := by rw [hl, ByteArray.append_assoc, ByteArray.append_assoc]; exact hd_0 126 [32] _
    have hP : pthD (lineC c) = c.p := by
      unfold pthD; rw [hA, Int.toNat_natCast, hl, ByteArray.append_assoc]; exact pth_of (a := wavB) rfl
    have hW : wsD (lineC c) = c.was := by
      unfold wsD
      rw [hA, hT, Int.toNat_natCast, Int.toNat_natCast, hl]
      have e1 : (wavB ++ c.p ++ isB).size = 2 + c.p.size + 3 := by rw [ByteArray.size_append, z wavB rfl]; rfl
      have h1 := @ByteArray.extract_append_size_add (wavB ++ c.p ++ isB) (c.was ++ toB ++ c.is) 0 c.was.size
      rw [Nat.add_zero, e1] at h1
      rw [h1, ByteArray.append_assoc]
      exact ByteArray.extract_append_eq_left rfl
    have hI : isD (lineC c) = c.is := by
      unfold isD
      rw [hT, Int.toNat_natCast, hl2, ← zz]; exact rest_of rfl
    unfold readD
    rw [decide_eq_false (by rw [hA]; omega), h0, hP, hW, hI, decide_eq_false (by rw [hA, hT]; omega)]
    show okC ⟨c.p, true, c.was, true, c.is⟩ (lineC c) = _
    rw [← e]; exact ok_c h
theorem read_two (s : ByteArray) : (readC s).2 = (readD s).2 ∧ ((readC s).2 = true → readC s = readD s) := by
  cases k : (readC s).2 with
  | true =>
    obtain ⟨h1, h2⟩ := read_ok k
    have h3 := lineD h1
    have h4 := read_line h1
    rw [h2] at h3 h4
    exact ⟨by rw [h3], fun _ => by rw [h3, ← h4]⟩
  | false =>
    refine ⟨?_, fun h => by cases h⟩
    cases k2 : (readD s).2 with
    | false => rfl
    | true =>
      obtain ⟨h1, h2⟩ := readD_ok k2
      have h4 := read_line h1
      rw [h2] at h4
      rw [h4] at k; cases k
end Go.Proofs.YtagfmppjlfhmeaaGreatDoor

namespace Go.Proofs.YtagfmppjlfhmeaaGreatDoor
open Go.RowKit Go.Dl
attribute [local irreducible] Tri SCall TSem ECall Drawn DFun QSem PSem PCall GCall MCall Round Weak dloadE OW DWl Tells IntKind.wrap Retold ESem
def cA (s sep : ByteArray) (i : Nat) : Bool := bif decide (fa s sep i < 0) then s.extract i (i + 3) == sep else false
theorem fa_t {s sep : ByteArray} {i : Nat} (h : cA s sep i = true) : (i : Int) = fa s sep (i + 1) := by
  show _ = bif cA s sep i then (i : Int) else fa s sep i
  rw [h]; rfl
theorem fa_f {s sep : ByteArray} {i : Nat} (h : cA s sep i = false) : fa s sep i = fa s sep (i + 1) := by
  show _ = bif cA s sep i then (i : Int) else fa s sep i
  rw [h]; rfl
theorem fa_0 (s sep : ByteArray) : (-1 : Int) = fa s sep 0 := rfl
def rdSt (s : ByteArray) (i : Nat) : St := ⟨0, tmOf [(0, strV s), (2, .ref 0 0), (3, bl false), (4, .ref 1 0), (5, int1 (fa s isB i)), (6, int1 (fa s toB i)), (7, int1 i)], .of [(0, ⟨56, 5, chD ch0⟩), (1, ⟨56, 5, chD ch0⟩)] 2⟩
theorem w_2 {i n : Nat} (h : i ≤ n) (hn : n ≤ 1600000) : IntKind.i64.wrap ((i : Int) + 2) = ((i + 2 : Nat) : Int) := wrapI (by omega) (by omega)
theorem w_3 {i n : Nat} (h : i ≤ n) (hn : n ≤ 1600000) : IntKind.i64.wrap ((i : Int) + 3) = ((i + 3 : Nat) : Int) := wrapI (by omega) (by omega)
theorem w_A {a : Int} {n : Nat} (h : a < n) (h0 : -1 ≤ a) (hn : n ≤ 1600000) : IntKind.i64.wrap (a + 3) = a + 3 := wrapI (by omega) (by omega)
theorem ext_le (s : ByteArray) (a b : Nat) (hs : s.size ≤ 1600000) : (s.extract a b).size ≤ 1600000 := Nat.le_trans (ext_sz s a b) hs
def xP (s : ByteArray) (i : Nat) : ByteArray := s.extract (Int.toNat 2) (Int.toNat (fa s isB i))
def xS (s : ByteArray) (i : Nat) : ByteArray := s.extract (Int.toNat (IntKind.i64.wrap (fa s isB i + 3))) s.size
def xW (s : ByteArray) (i : Nat) : ByteArray := s.extract (Int.toNat (IntKind.i64.wrap (fa s isB i + 3))) (Int.toNat (fa s toB i))
def xI (s : ByteArray) (i : Nat) : ByteArray := s.extract (Int.toNat (IntKind.i64.wrap (fa s toB i + 3))) s.size
theorem x_P (s : ByteArray) : xP s (s.size - 2) = pthD s := rfl
theorem nat3 {a : Int} (h : 0 ≤ a) : Int.toNat (a + 3) = a.toNat + 3 := by omega
theorem x_S {s : ByteArray} (hs : s.size ≤ 1600000) (h : 2 ≤ fa s isB (s.size - 2)) : xS s (s.size - 2) = sdD s := by
  unfold xS sdD atD
  rw [w_A (n := s.size) (by have := (fa_lo (s := s) (sep := isB) (s.size - 2)).2; omega) (by omega) hs, nat3 (by omega)]
theorem x_W {s : ByteArray} (hs : s.size ≤ 1600000) (h : 2 ≤ fa s isB (s.size - 2)) : xW s (s.size - 2) = wsD s := by
  unfold xW wsD atD toD
  rw [w_A (n := s.size) (by have := (fa_lo (s := s) (sep := isB) (s.size - 2)).2; omega) (by omega) hs, nat3 (by omega)]
theorem x_I {s : ByteArray} (hs : s.size ≤ 1600000) (h : 0 ≤ fa s toB (s.size - 2)) : xI s (s.size - 2) = isD s := by
  unfold xI isD toD
  rw [w_A (n := s.size) (by have := (fa_lo (s := s) (sep := toB) (s.size - 2)).2; omega) (by omega) hs, nat3 (by omega)]
theorem rdd_0 {s : ByteArray} (h : decide (atD s < 2) = true) : readD s = (ch0, false) := by unfold readD; rw [h]; rfl
theorem rdd_1 {s : ByteArray} (h : decide (atD s < 2) = false) (h1 : (byteAt s 0 == 43) = true) : readD s = okC ⟨pthD s, false, emB, true, sdD s⟩ s := by unfold readD; rw [h, h1]; rfl
theorem rdd_2 {s : ByteArray} (h : decide (atD s < 2) = false) (h1 : (byteAt s 0 == 43) = false) (h2 : (byteAt s 0 == 45) = true) : readD s = okC ⟨pthD s, true, sdD s, false, emB⟩ s := by unfold readD; rw [h, h1, h2]; rfl
theorem rdd_3 {s : ByteArray} (h : decide (atD s < 2) = false) (h1 : (byteAt s 0 == 43) = false) (h2 : (byteAt s 0 == 45) = false) (h3 : (byteAt s 0 == 126) = true) (h4 : decide (toD s < atD s + 3) = true) : readD s = (⟨pthD s, false, emB, false, emB⟩, false) := by unfold readD; rw [h, h1, h2, h3, h4]; rfl
theorem rdd_4 {s : ByteArray} (h : decide (atD s < 2) = false) (h1 : (byteAt s 0 == 43) = false) (h2 : (byteAt s 0 == 45) = false) (h3 : (byteAt s 0 == 126) = true) (h4 : decide (toD s < atD s + 3) = false) : readD s = okC ⟨pthD s, true, wsD s, true, isD s⟩ s := by unfold readD; rw [h, h1, h2, h3, h4]; rfl
theorem rdd_5 {s : ByteArray} (h : decide (atD s < 2) = false) (h1 : (byteAt s 0 == 43) = false) (h2 : (byteAt s 0 == 45) = false) (h3 : (byteAt s 0 == 126) = false) : readD s = (⟨pthD s, false, emB, false, emB⟩, false) := by unfold readD; rw [h, h1, h2, h3]; rfl
attribute [local irreducible] fa oneB lineC cutT ByteArray.extract byteAt
set_option maxRecDepth 100000 in
set_option maxHeartbeats 20000000 in
theorem read41_D (s : ByteArray) (hs : s.size ≤ 1600000) : DPure Tryz.prog 41 [strV s] (rdV (readD s)) := by
  refine DFun.data (DFun.body Tryz.func41 rfl (by kernel_rfl) ?_)
  repeat' (first | with_reducible rfl | ((conv => whnf); first | refine And.intro ?_ ?_ | (intro h; first | with_reducible exact tf_no h | with_reducible exact ft_no h | exact Bool.noConfusion h | with_reducible exact h | (have ht : true = true := h; clear ht h) | skip) | ((with_reducible refine ECall.mark ?_); first | refine ECall.only ?_ (fun h => nomatch h) | refine ECall.only ?_ ?_) | ((with_reducible refine Drawn.mark ?_); first | refine Drawn.quiet (by kernel_rfl) ?_) | refine dcell_ok rfl ?_ | refine AppC.new ?_))
  all_goals first | (with_reducible refine enters_mark ?_; kernel_rfl) | (with_reducible refine boolT_mark ?_; kernel_rfl) | rfl | trivial | assumption | exact Nat.le_of_ble_eq_true rfl | (show entersB _ _ = true; kernel_rfl) | exact DW.same _ rfl | exact DW.ref _ _ _ rfl | exact DW.arr _ _ _ rfl | refine DW.int ?_ | refine dvb ?_ | refine dvi ?_ | exact OW.cells rfl rfl (DWl.same rfl) | exact Nat.zero_le _ | omega | skip
  all_goals repeat' (first | refine OW.cells rfl rfl ?_ | exact DW.nilArr _ rfl | refine DWl.cons ?_ ?_ | exact DWl.nil | exact DW.same _ rfl | exact DW.ref _ _ _ rfl | exact DW.arr _ _ _ rfl | exact DW.sub _ _ _ _ rfl | exact DW.mo _ _ rfl | exact DW.nilLst _ | refine DW.aggl ?_ | refine DW.tupl ?_ | refine DW.clol ?_ ?_)
  all_goals try ((conv => whnf); with_reducible first | refine Round.mark ?_ | refine Tells.mark ?_ | refine Retold.mark ?_)
  all_goals try first | (show (_ : Bool) = _; simp_all; done) | (show (_ : Int) < _; simp at *; omega) | (show (_ : Int) ≤ _; simp at *; omega) | (show (_ : Nat) < _; simp at *; omega) | (show (_ : Nat) ≤ _; simp at *; omega)
  conv => whnf
  refine Tri.loop (rdSt s) (fun i => i ≤ s.size - 2) (fun i => s.size - i) 0 (by kernel_rfl) (Weak.list [(0, some 0), (1, some 1)] [] (by kernel_rfl) ?_ ?_) (Nat.zero_le _) ?_
  iterate 2 · repeat' (first | exact DW.int (fa_0 _ _) | exact DW.same _ rfl | exact DW.ref _ _ _ rfl | exact DW.arr _ _ _ rfl | exact OW.cells rfl rfl (DWl.same rfl) | refine OW.cells rfl rfl ?_ | refine DWl.cons ?_ ?_ | exact DWl.nil | exact DW.nilArr _ rfl | exact DW.nilLst _ | refine DW.clol ?_ ?_ | refine DW.aggl ?_ | refine DW.tupl ?_ | refine DW.int ?_ | refine DW.bool ?_ | refine DW.str ?_ | refine DW.arrE rfl ?_ | ((conv => whnf); first | refine And.intro ?_ ?_ | trivial))
  intro i hi
  have hi : i ≤ s.size - 2 := hi
  show dcode _ _ _ _ (rdSt s i) _
  by_cases hia : i + 2 < s.size
  · have hT : decide (IntKind.i64.wrap ((i : Int) + 2) < (s.size : Int)) = true := decide_eq_true (by rw [w_2 (n := s.size) (by omega) hs]; omega)
    have e3 := w_3 (i := i) (n := s.size) (by omega) hs
    have e1 : IntKind.i64.wrap ((i : Int) + 1) = ((i + 1 : Nat) : Int) := wsucc (n := s.size) (by omega) (by omega)
    by_cases h1 : cA s isB i = true
    · by_cases h2 : cA s toB i = true
      · skip
        have k1 : (bif decide (fa s isB i < 0) then s.extract (Int.toNat (i : Int)) (Int.toNat (IntKind.i64.wrap ((i : Int) + 3))) == (⟨#[32, 61, 32]⟩ : ByteArray) else false) = true := by rw [e3]; exact h1
        have k2 : (bif decide (fa s toB i < 0) then s.extract (Int.toNat (i : Int)) (Int.toNat (IntKind.i64.wrap ((i : Int) + 3))) == (⟨#[32, 62, 32]⟩ : ByteArray) else false) = true := by rw [e3]; exact h2
        repeat' (first | with_reducible rfl | ((conv => whnf); first | refine And.intro ?_ ?_ | (intro h; first | with_reducible exact tf_no h | with_reducible exact ft_no h | exact Bool.noConfusion h | with_reducible exact h | (exfalso; exact bt_x hT h) | (exfalso; exact bt_x k1 h) | (exfalso; exact bt_x k2 h) | (have ht : true = true := h; clear ht h) | skip) | ((with_reducible refine ECall.mark ?_); first | refine ECall.only ?_ (fun h => nomatch h) | refine ECall.only ?_ ?_) | ((with_reducible refine Drawn.mark ?_); first | refine Drawn.quiet (by kernel_rfl) ?_) | refine dcell_ok rfl ?_ | refine AppC.new ?_))
        all_goals try ((conv => whnf); with_reducible refine Round.mark ?_)
        all_goals try first | ((with_reducible show Option.isSome (slElem _ _) = true); kernel_rfl) | ((with_reducible show slElem _ _ = some _); kernel_rfl) | ((with_reducible refine enters_mark ?_); kernel_rfl) | (with_reducible assumption) | ((with_reducible show List.all _ DV.one = true); rfl) | ((with_reducible show (_ : Nat) = _); rfl) | ((with_reducible show (_ == true) = true); first | (simp; done) | simpa using h) | ((with_reducible show (_ : Nat) ≤ _); exact Nat.le_of_ble_eq_true rfl) | ((with_reducible show (_ : Int) ≤ _); first | omega | decide) | ((with_reducible show (_ : Int) < _); first | omega | decide) | ((with_reducible show (_ : Nat) < _); omega) | ((with_reducible show (_ : Nat) ≤ _); omega)
        all_goals try first | ((with_reducible show isStr _ _ = true); kernel_rfl) | (rw [e3]; omega)
        refine Round.go (fun _ => i + 1) (show i + 1 ≤ s.size - 2 by omega) (by show s.size - (i + 1) < s.size - i; omega) (Weak.list [(0, some 0), (1, some 1)] [] (by kernel_rfl) ?_ ?_)
        iterate 2 · repeat' (first | exact DW.int e1 | exact DW.int (fa_t h1) | exact DW.int (fa_t h2) | exact DW.same _ rfl | exact DW.ref _ _ _ rfl | exact DW.arr _ _ _ rfl | exact OW.cells rfl rfl (DWl.same rfl) | refine OW.cells rfl rfl ?_ | refine DWl.cons ?_ ?_ | exact DWl.nil | exact DW.nilArr _ rfl | exact DW.nilLst _ | refine DW.clol ?_ ?_ | refine DW.aggl ?_ | refine DW.tupl ?_ | refine DW.int ?_ | refine DW.bool ?_ | refine DW.str ?_ | refine DW.arrE rfl ?_ | ((conv => whnf); first | refine And.intro ?_ ?_ | trivial))
      · have h2 := eq_false_of_ne_true h2
        have k1 : (bif decide (fa s isB i < 0) then s.extract (Int.toNat (i : Int)) (Int.toNat (IntKind.i64.wrap ((i : Int) + 3))) == (⟨#[32, 61, 32]⟩ : ByteArray) else false) = true := by rw [e3]; exact h1
        have k2 : (bif decide (fa s toB i < 0) then s.extract (Int.toNat (i : Int)) (Int.toNat (IntKind.i64.wrap ((i : Int) + 3))) == (⟨#[32, 62, 32]⟩ : ByteArray) else false) = false := by rw [e3]; exact h2
        repeat' (first | with_reducible rfl | ((conv => whnf); first | refine And.intro ?_ ?_ | (intro h; first | with_reducible exact tf_no h | with_reducible exact ft_no h | exact Bool.noConfusion h | with_reducible exact h | (exfalso; exact bt_x hT h) | (exfalso; exact bt_x k1 h) | (exfalso; exact bt_x k2 h) | (have ht : true = true := h; clear ht h) | skip) | ((with_reducible refine ECall.mark ?_); first | refine ECall.only ?_ (fun h => nomatch h) | refine ECall.only ?_ ?_) | ((with_reducible refine Drawn.mark ?_); first | refine Drawn.quiet (by kernel_rfl) ?_) | refine dcell_ok rfl ?_ | refine AppC.new ?_))
        all_goals try ((conv => whnf); with_reducible refine Round.mark ?_)
        all_goals try first | ((with_reducible show Option.isSome (slElem _ _) = true); kernel_rfl) | ((with_reducible show slElem _ _ = some _); kernel_rfl) | ((with_reducible refine enters_mark ?_); kernel_rfl) | (with_reducible assumption) | ((with_reducible show List.all _ DV.one = true); rfl) | ((with_reducible show (_ : Nat) = _); rfl) | ((with_reducible show (_ == true) = true); first | (simp; done) | simpa using h) | ((with_reducible show (_ : Nat) ≤ _); exact Nat.le_of_ble_eq_true rfl) | ((with_reducible show (_ : Int) ≤ _); first | omega | decide) | ((with_reducible show (_ : Int) < _); first | omega | decide) | ((with_reducible show (_ : Nat) < _); omega) | ((with_reducible show (_ : Nat) ≤ _); omega)
        all_goals try first | ((with_reducible show isStr _ _ = true); kernel_rfl) | (rw [e3]; omega)
        refine Round.go (fun _ => i + 1) (show i + 1 ≤ s.size - 2 by omega) (by show s.size - (i + 1) < s.size - i; omega) (Weak.list [(0, some 0), (1, some 1)] [] (by kernel_rfl) ?_ ?_)
        iterate 2 · repeat' (first | exact DW.int e1 | exact DW.int (fa_t h1) | exact DW.int (fa_f h2) | exact DW.same _ rfl | exact DW.ref _ _ _ rfl | exact DW.arr _ _ _ rfl | exact OW.cells rfl rfl (DWl.same rfl) | refine OW.cells rfl rfl ?_ | refine DWl.cons ?_ ?_ | exact DWl.nil | exact DW.nilArr _ rfl | exact DW.nilLst _ | refine DW.clol ?_ ?_ | refine DW.aggl ?_ | refine DW.tupl ?_ | refine DW.int ?_ | refine DW.bool ?_ | refine DW.str ?_ | refine DW.arrE rfl ?_ | ((conv => whnf); first | refine And.intro ?_ ?_ | trivial))
    · have h1 := eq_false_of_ne_true h1
      by_cases h2 : cA s toB i = true
      · skip
        have k1 : (bif decide (fa s isB i < 0) then s.extract (Int.toNat (i : Int)) (Int.toNat (IntKind.i64.wrap ((i : Int) + 3))) == (⟨#[32, 61, 32]⟩ : ByteArray) else false) = false := by rw [e3]; exact h1
        have k2 : (bif decide (fa s toB i < 0) then s.extract (Int.toNat (i : Int)) (Int.toNat (IntKind.i64.wrap ((i : Int) + 3))) == (⟨#[32, 62, 32]⟩ : ByteArray) else false) = true := by rw [e3]; exact h2
        repeat' (first | with_reducible rfl | ((conv => whnf); first | refine And.intro ?_ ?_ | (intro h; first | with_reducible exact tf_no h | with_reducible exact ft_no h | exact Bool.noConfusion h | with_reducible exact h | (exfalso; exact bt_x hT h) | (exfalso; exact bt_x k1 h) | (exfalso; exact bt_x k2 h) | (have ht : true = true := h; clear ht h) | skip) | ((with_reducible refine ECall.mark ?_); first | refine ECall.only ?_ (fun h => nomatch h) | refine ECall.only ?_ ?_) | ((with_reducible refine Drawn.mark ?_); first | refine Drawn.quiet (by kernel_rfl) ?_) | refine dcell_ok rfl ?_ | refine AppC.new ?_))
        all_goals try ((conv => whnf); with_reducible refine Round.mark ?_)
        all_goals try first | ((with_reducible show Option.isSome (slElem _ _) = true); kernel_rfl) | ((with_reducible show slElem _ _ = some _); kernel_rfl) | ((with_reducible refine enters_mark ?_); kernel_rfl) | (with_reducible assumption) | ((with_reducible show List.all _ DV.one = true); rfl) | ((with_reducible show (_ : Nat) = _); rfl) | ((with_reducible show (_ == true) = true); first | (simp; done) | simpa using h) | ((with_reducible show (_ : Nat) ≤ _); exact Nat.le_of_ble_eq_true rfl) | ((with_reducible show (_ : Int) ≤ _); first | omega | decide) | ((with_reducible show (_ : Int) < _); first | omega | decide) | ((with_reducible show (_ : Nat) < _); omega) | ((with_reducible show (_ : Nat) ≤ _); omega)
        all_goals try first | ((with_reducible show isStr _ _ = true); kernel_rfl) | (rw [e3]; omega)
        refine Round.go (fun _ => i + 1) (show i + 1 ≤ s.size - 2 by omega) (by show s.size - (i + 1) < s.size - i; omega) (Weak.list [(0, some 0), (1, some 1)] [] (by kernel_rfl) ?_ ?_)
        iterate 2 · repeat' (first | exact DW.int e1 | exact DW.int (fa_f h1) | exact DW.int (fa_t h2) | exact DW.same _ rfl | exact DW.ref _ _ _ rfl | exact DW.arr _ _ _ rfl | exact OW.cells rfl rfl (DWl.same rfl) | refine OW.cells rfl rfl ?_ | refine DWl.cons ?_ ?_ | exact DWl.nil | exact DW.nilArr _ rfl | exact DW.nilLst _ | refine DW.clol ?_ ?_ | refine DW.aggl ?_ | refine DW.tupl ?_ | refine DW.int ?_ | refine DW.bool ?_ | refine DW.str ?_ | refine DW.arrE rfl ?_ | ((conv => whnf); first | refine And.intro ?_ ?_ | trivial))
      · have h2 := eq_false_of_ne_true h2
        have k1 : (bif decide (fa s isB i < 0) then s.extract (Int.toNat (i : Int)) (Int.toNat (IntKind.i64.wrap ((i : Int) + 3))) == (⟨#[32, 61, 32]⟩ : ByteArray) else false) = false := by rw [e3]; exact h1
        have k2 : (bif decide (fa s toB i < 0) then s.extract (Int.toNat (i : Int)) (Int.toNat (IntKind.i64.wrap ((i : Int) + 3))) == (⟨#[32, 62, 32]⟩ : ByteArray) else false) = false := by rw [e3]; exact h2
        repeat' (first | with_reducible rfl | ((conv => whnf); first | refine And.intro ?_ ?_ | (intro h; first | with_reducible exact tf_no h | with_reducible exact ft_no h | exact Bool.noConfusion h | with_reducible exact h | (exfalso; exact bt_x hT h) | (exfalso; exact bt_x k1 h) | (exfalso; exact bt_x k2 h) | (have ht : true = true := h; clear ht h) | skip) | ((with_reducible refine ECall.mark ?_); first | refine ECall.only ?_ (fun h => nomatch h) | refine ECall.only ?_ ?_) | ((with_reducible refine Drawn.mark ?_); first | refine Drawn.quiet (by kernel_rfl) ?_) | refine dcell_ok rfl ?_ | refine AppC.new ?_))
        all_goals try ((conv => whnf); with_reducible refine Round.mark ?_)
        all_goals try first | ((with_reducible show Option.isSome (slElem _ _) = true); kernel_rfl) | ((with_reducible show slElem _ _ = some _); kernel_rfl) | ((with_reducible refine enters_mark ?_); kernel_rfl) | (with_reducible assumption) | ((with_reducible show List.all _ DV.one = true); rfl) | ((with_reducible show (_ : Nat) = _); rfl) | ((with_reducible show (_ == true) = true); first | (simp; done) | simpa using h) | ((with_reducible show (_ : Nat) ≤ _); exact Nat.le_of_ble_eq_true rfl) | ((with_reducible show (_ : Int) ≤ _); first | omega | decide) | ((with_reducible show (_ : Int) < _); first | omega | decide) | ((with_reducible show (_ : Nat) < _); omega) | ((with_reducible show (_ : Nat) ≤ _); omega)
        all_goals try first | ((with_reducible show isStr _ _ = true); kernel_rfl) | (rw [e3]; omega)
        refine Round.go (fun _ => i + 1) (show i + 1 ≤ s.size - 2 by omega) (by show s.size - (i + 1) < s.size - i; omega) (Weak.list [(0, some 0), (1, some 1)] [] (by kernel_rfl) ?_ ?_)
        iterate 2 · repeat' (first | exact DW.int e1 | exact DW.int (fa_f h1) | exact DW.int (fa_f h2) | exact DW.same _ rfl | exact DW.ref _ _ _ rfl | exact DW.arr _ _ _ rfl | exact OW.cells rfl rfl (DWl.same rfl) | refine OW.cells rfl rfl ?_ | refine DWl.cons ?_ ?_ | exact DWl.nil | exact DW.nilArr _ rfl | exact DW.nilLst _ | refine DW.clol ?_ ?_ | refine DW.aggl ?_ | refine DW.tupl ?_ | refine DW.int ?_ | refine DW.bool ?_ | refine DW.str ?_ | refine DW.arrE rfl ?_ | ((conv => whnf); first | refine And.intro ?_ ?_ | trivial))
  · have hie : i = s.size - 2 := by omega
    have hT : decide (IntKind.i64.wrap ((i : Int) + 2) < (s.size : Int)) = false := decide_eq_false (by rw [w_2 (n := s.size) (by omega) hs]; omega)
    have bA := fa_lo (s := s) (sep := isB) i
    have bT := fa_lo (s := s) (sep := toB) i
    have aE : fa s isB i = atD s := by rw [hie]; rfl
    have tE : fa s toB i = toD s := by rw [hie]; rfl
    by_cases c0 : decide (fa s isB i < 2) = true
    · have eR := rdd_0 (s := s) (by rw [← aE]; exact c0)
      repeat' (first | with_reducible rfl | ((conv => whnf); first | refine And.intro ?_ ?_ | (intro h; first | with_reducible exact tf_no h | with_reducible exact ft_no h | exact Bool.noConfusion h | with_reducible exact h | (exfalso; exact bt_x hT h) | (exfalso; exact bt_x c0 h) | (have ht : true = true := h; clear ht h) | skip) | ((with_reducible refine ECall.mark ?_); first | refine ECall.only ?_ (fun h => nomatch h) | refine ECall.only ?_ ?_) | ((with_reducible refine Drawn.mark ?_); first | refine Drawn.quiet (by kernel_rfl) ?_) | refine dcell_ok rfl ?_ | refine AppC.new ?_))
      all_goals try first | ((with_reducible show Option.isSome (slElem _ _) = true); kernel_rfl) | ((with_reducible show slElem _ _ = some _); kernel_rfl) | ((with_reducible refine enters_mark ?_); kernel_rfl) | (with_reducible assumption) | ((with_reducible show List.all _ DV.one = true); rfl) | ((with_reducible show (_ : Nat) = _); rfl) | ((with_reducible show (_ == true) = true); first | (simp; done) | simpa using h) | ((with_reducible show (_ : Nat) ≤ _); exact Nat.le_of_ble_eq_true rfl) | ((with_reducible show (_ : Int) ≤ _); first | omega | decide) | ((with_reducible show (_ : Int) < _); first | omega | decide) | ((with_reducible show (_ : Nat) < _); omega) | ((with_reducible show (_ : Nat) ≤ _); omega)
      all_goals try ((with_reducible show isStr _ _ = true); kernel_rfl)
      all_goals (conv => whnf)
      all_goals exact Tells.of (congrArg rdV eR) (Tells.mk (DW.tupl (DWl.cons (DW.aggl (DWl.same rfl)) (DWl.cons (DW.same _ rfl) DWl.nil))))
    · have c0 := eq_false_of_ne_true c0
      have g0 : 2 ≤ fa s isB i := by have := of_decide_eq_false c0; omega
      have hsz : i + 2 = s.size := by omega
      have eA := w_A (a := fa s isB i) (n := s.size) (by omega) bA.1 hs
      have eT := w_A (a := fa s toB i) (n := s.size) (by omega) bT.1 hs
      have a0 : decide (atD s < 2) = false := by rw [← aE]; exact c0
      have zP : (xP s i).size ≤ 1600000 := ext_le s _ _ hs
      have zS : (xS s i).size ≤ 1600000 := ext_le s _ _ hs
      have zW : (xW s i).size ≤ 1600000 := ext_le s _ _ hs
      have zI : (xI s i).size ≤ 1600000 := ext_le s _ _ hs
      have qP : xP s i = pthD s := by rw [hie]; exact x_P s
      have qS : xS s i = sdD s := by rw [hie]; exact x_S hs (by rw [← hie]; exact g0)
      by_cases c1 : (byteAt s 0 == 43) = true
      · skip
        have hf := one29_D (⟨xP s i, false, emB, true, xS s i⟩ : Ch) (big zP) (big sz_em) (big zS)
        have hl := line46_D (⟨xP s i, false, emB, true, xS s i⟩ : Ch) ⟨zP, sz_em, zS⟩
        have eR : readD s = okC (⟨xP s i, false, emB, true, xS s i⟩ : Ch) s := by rw [rdd_1 a0 c1, qP, qS]
        repeat' (first | with_reducible rfl | ((conv => whnf); first | refine And.intro ?_ ?_ | (intro h; first | with_reducible exact tf_no h | with_reducible exact ft_no h | exact Bool.noConfusion h | with_reducible exact h | (exfalso; exact bt_x hT h) | (exfalso; exact bt_x c0 h) | (exfalso; exact bt_x c1 h) | (have ht : true = true := h; clear ht h) | skip) | ((with_reducible refine SCall.mark ?_); first | refine SCall.data (hf) rfl rfl ?_ | refine SCall.scal (hf) rfl rfl ?_ | refine SCall.data (hl) rfl rfl ?_ | refine SCall.scal (hl) rfl rfl ?_) | ((with_reducible refine PCall.mark ?_); first | refine PCall.mk (hf) rfl rfl ?_ | refine PCall.mk (hl) rfl rfl ?_) | ((with_reducible refine GCall.mark ?_); first | refine GCall.data (fun _ => hf) rfl rfl ?_ | refine GCall.scal (fun _ => hf) rfl rfl ?_ | refine GCall.data (fun _ => hl) rfl rfl ?_ | refine GCall.scal (fun _ => hl) rfl rfl ?_) | ((with_reducible refine MCall.mark ?_); first | refine MCall.data (fun _ => hf) rfl rfl ?_ | refine MCall.plain (PCall.mk (hf) rfl rfl ?_) | refine MCall.data (fun _ => hl) rfl rfl ?_ | refine MCall.plain (PCall.mk (hl) rfl rfl ?_)) | ((with_reducible refine Tri.mark ?_); first | (refine Tri.treeX [0] (MX.mv 0 0 (MX.mv 0 1 (MX.mv 2 2 (MX.mv 0 3 (MX.mv 0 6 (MX.mv 1 4 (MX.mv 2 5 (MX.mv 0 7 (MX.mv 0 8 (MX.mv 1 9 (MX.mv 1 10 MX.done))))))))))) ?_ (by kernel_rfl) ?_; rfl)) | ((with_reducible refine ECall.mark ?_); first | refine ECall.alt (strV (lineC (⟨xP s i, false, emB, true, xS s i⟩ : Ch))) (fun _ => SCall.data hl rfl rfl ?_) ?_ | refine ECall.only ?_ (fun h => nomatch h) | refine ECall.only ?_ ?_) | ((with_reducible refine Drawn.mark ?_); first | refine Drawn.quiet (by kernel_rfl) ?_) | refine dloadE_map (ch0) ?_ ?_ | refine dcell_ok rfl ?_ | refine AppC.new ?_))
        all_goals try first | ((with_reducible show Option.isSome (slElem _ _) = true); kernel_rfl) | ((with_reducible show slElem _ _ = some _); kernel_rfl) | ((with_reducible refine enters_mark ?_); kernel_rfl) | (with_reducible assumption) | ((with_reducible show List.all _ DV.one = true); rfl) | ((with_reducible show (_ : Nat) = _); rfl) | ((with_reducible show (_ == true) = true); first | (simp; done) | simpa using h) | ((with_reducible show (_ : Nat) ≤ _); exact Nat.le_of_ble_eq_true rfl) | ((with_reducible show (_ : Int) ≤ _); first | omega | decide) | ((with_reducible show (_ : Int) < _); first | omega | decide) | ((with_reducible show (_ : Nat) < _); omega) | ((with_reducible show (_ : Nat) ≤ _); omega)
        all_goals try (first | ((with_reducible show isStr _ _ = true); kernel_rfl) | (with_reducible exact tnb h) | ((with_reducible show Option.all _ _ = true); rfl) | ((with_reducible show (_ : Int) ≤ _); first | omega | (rw [eA]; omega) | (rw [eT]; omega) | (rw [eA, eT]; omega)) | ((with_reducible show (_ : Int) < _); first | omega | (rw [eA]; omega) | (rw [eT]; omega)))
        repeat' (first | with_reducible rfl | ((conv => whnf); first | refine And.intro ?_ ?_ | (intro h; first | with_reducible exact tf_no h | with_reducible exact ft_no h | exact Bool.noConfusion h | with_reducible exact h | (have ht : true = true := h; clear ht h) | skip) | ((with_reducible refine ECall.mark ?_); first | refine ECall.only ?_ (fun h => nomatch h) | refine ECall.only ?_ ?_) | ((with_reducible refine Drawn.mark ?_); first | refine Drawn.quiet (by kernel_rfl) ?_) | refine dloadE_map (ch0) ?_ ?_ | refine dcell_ok rfl ?_ | refine AppC.new ?_))
        all_goals (conv => whnf)
        all_goals exact Tells.of (congrArg rdV eR) (Tells.mk (DW.tupl (DWl.cons (DW.aggl (DWl.same rfl)) (DWl.cons (DW.same _ rfl) DWl.nil))))
      · have c1 := eq_false_of_ne_true c1
        by_cases c2 : (byteAt s 0 == 45) = true
        · skip
          have hf := one29_D (⟨xP s i, true, xS s i, false, emB⟩ : Ch) (big zP) (big zS) (big sz_em)
          have hl := line46_D (⟨xP s i, true, xS s i, false, emB⟩ : Ch) ⟨zP, zS, sz_em⟩
          have eR : readD s = okC (⟨xP s i, true, xS s i, false, emB⟩ : Ch) s := by rw [rdd_2 a0 c1 c2, qP, qS]
          repeat' (first | with_reducible rfl | ((conv => whnf); first | refine And.intro ?_ ?_ | (intro h; first | with_reducible exact tf_no h | with_reducible exact ft_no h | exact Bool.noConfusion h | with_reducible exact h | (exfalso; exact bt_x hT h) | (exfalso; exact bt_x c0 h) | (exfalso; exact bt_x c1 h) | (exfalso; exact bt_x c2 h) | (have ht : true = true := h; clear ht h) | skip) | ((with_reducible refine SCall.mark ?_); first | refine SCall.data (hf) rfl rfl ?_ | refine SCall.scal (hf) rfl rfl ?_ | refine SCall.data (hl) rfl rfl ?_ | refine SCall.scal (hl) rfl rfl ?_) | ((with_reducible refine PCall.mark ?_); first | refine PCall.mk (hf) rfl rfl ?_ | refine PCall.mk (hl) rfl rfl ?_) | ((with_reducible refine GCall.mark ?_); first | refine GCall.data (fun _ => hf) rfl rfl ?_ | refine GCall.scal (fun _ => hf) rfl rfl ?_ | refine GCall.data (fun _ => hl) rfl rfl ?_ | refine GCall.scal (fun _ => hl) rfl rfl ?_) | ((with_reducible refine MCall.mark ?_); first | refine MCall.data (fun _ => hf) rfl rfl ?_ | refine MCall.plain (PCall.mk (hf) rfl rfl ?_) | refine MCall.data (fun _ => hl) rfl rfl ?_ | refine MCall.plain (PCall.mk (hl) rfl rfl ?_)) | ((with_reducible refine Tri.mark ?_); first | (refine Tri.treeX [0] (MX.mv 0 0 (MX.mv 0 1 (MX.mv 2 2 (MX.mv 0 3 (MX.mv 0 6 (MX.mv 1 4 (MX.mv 2 5 (MX.mv 0 7 (MX.mv 0 8 (MX.mv 1 9 (MX.mv 1 10 MX.done))))))))))) ?_ (by kernel_rfl) ?_; rfl)) | ((with_reducible refine ECall.mark ?_); first | refine ECall.alt (strV (lineC (⟨xP s i, true, xS s i, false, emB⟩ : Ch))) (fun _ => SCall.data hl rfl rfl ?_) ?_ | refine ECall.only ?_ (fun h => nomatch h) | refine ECall.only ?_ ?_) | ((with_reducible refine Drawn.mark ?_); first | refine Drawn.quiet (by kernel_rfl) ?_) | refine dloadE_map (ch0) ?_ ?_ | refine dcell_ok rfl ?_ | refine AppC.new ?_))
          all_goals try first | ((with_reducible show Option.isSome (slElem _ _) = true); kernel_rfl) | ((with_reducible show slElem _ _ = some _); kernel_rfl) | ((with_reducible refine enters_mark ?_); kernel_rfl) | (with_reducible assumption) | ((with_reducible show List.all _ DV.one = true); rfl) | ((with_reducible show (_ : Nat) = _); rfl) | ((with_reducible show (_ == true) = true); first | (simp; done) | simpa using h) | ((with_reducible show (_ : Nat) ≤ _); exact Nat.le_of_ble_eq_true rfl) | ((with_reducible show (_ : Int) ≤ _); first | omega | decide) | ((with_reducible show (_ : Int) < _); first | omega | decide) | ((with_reducible show (_ : Nat) < _); omega) | ((with_reducible show (_ : Nat) ≤ _); omega)
          all_goals try (first | ((with_reducible show isStr _ _ = true); kernel_rfl) | (with_reducible exact tnb h) | ((with_reducible show Option.all _ _ = true); rfl) | ((with_reducible show (_ : Int) ≤ _); first | omega | (rw [eA]; omega) | (rw [eT]; omega) | (rw [eA, eT]; omega)) | ((with_reducible show (_ : Int) < _); first | omega | (rw [eA]; omega) | (rw [eT]; omega)))
          repeat' (first | with_reducible rfl | ((conv => whnf); first | refine And.intro ?_ ?_ | (intro h; first | with_reducible exact tf_no h | with_reducible exact ft_no h | exact Bool.noConfusion h | with_reducible exact h | (have ht : true = true := h; clear ht h) | skip) | ((with_reducible refine ECall.mark ?_); first | refine ECall.only ?_ (fun h => nomatch h) | refine ECall.only ?_ ?_) | ((with_reducible refine Drawn.mark ?_); first | refine Drawn.quiet (by kernel_rfl) ?_) | refine dloadE_map (ch0) ?_ ?_ | refine dcell_ok rfl ?_ | refine AppC.new ?_))
          all_goals (conv => whnf)
          all_goals exact Tells.of (congrArg rdV eR) (Tells.mk (DW.tupl (DWl.cons (DW.aggl (DWl.same rfl)) (DWl.cons (DW.same _ rfl) DWl.nil))))
        · have c2 := eq_false_of_ne_true c2
          by_cases c3 : (byteAt s 0 == 126) = true
          · by_cases c4 : decide (fa s toB i < IntKind.i64.wrap (fa s isB i + 3)) = true
            · have eR := rdd_3 a0 c1 c2 c3 (by rw [← aE, ← tE, ← eA]; exact c4)
              rw [← qP] at eR
              repeat' (first | with_reducible rfl | ((conv => whnf); first | refine And.intro ?_ ?_ | (intro h; first | with_reducible exact tf_no h | with_reducible exact ft_no h | exact Bool.noConfusion h | with_reducible exact h | (exfalso; exact bt_x hT h) | (exfalso; exact bt_x c0 h) | (exfalso; exact bt_x c1 h) | (exfalso; exact bt_x c2 h) | (exfalso; exact bt_x c3 h) | (exfalso; exact bt_x c4 h) | (have ht : true = true := h; clear ht h) | skip) | ((with_reducible refine ECall.mark ?_); first | refine ECall.only ?_ (fun h => nomatch h) | refine ECall.only ?_ ?_) | ((with_reducible refine Drawn.mark ?_); first | refine Drawn.quiet (by kernel_rfl) ?_) | refine dcell_ok rfl ?_ | refine AppC.new ?_))
              all_goals try first | ((with_reducible show Option.isSome (slElem _ _) = true); kernel_rfl) | ((with_reducible show slElem _ _ = some _); kernel_rfl) | ((with_reducible refine enters_mark ?_); kernel_rfl) | (with_reducible assumption) | ((with_reducible show List.all _ DV.one = true); rfl) | ((with_reducible show (_ : Nat) = _); rfl) | ((with_reducible show (_ == true) = true); first | (simp; done) | simpa using h) | ((with_reducible show (_ : Nat) ≤ _); exact Nat.le_of_ble_eq_true rfl) | ((with_reducible show (_ : Int) ≤ _); first | omega | decide) | ((with_reducible show (_ : Int) < _); first | omega | decide) | ((with_reducible show (_ : Nat) < _); omega) | ((with_reducible show (_ : Nat) ≤ _); omega)
              all_goals try (first | ((with_reducible show isStr _ _ = true); kernel_rfl) | (with_reducible exact tnb h) | ((with_reducible show Option.all _ _ = true); rfl) | ((with_reducible show (_ : Int) ≤ _); first | omega | (rw [eA]; omega) | (rw [eT]; omega) | (rw [eA, eT]; omega)) | ((with_reducible show (_ : Int) < _); first | omega | (rw [eA]; omega) | (rw [eT]; omega)))
              all_goals (conv => whnf)
              all_goals exact Tells.of (congrArg rdV eR) (Tells.mk (DW.tupl (DWl.cons (DW.aggl (DWl.same rfl)) (DWl.cons (DW.same _ rfl) DWl.nil))))
            · have c4 := eq_false_of_ne_true c4
              have g4 : fa s isB i + 3 ≤ fa s toB i := by have := of_decide_eq_false c4; rw [eA] at this; omega
              have qW : xW s i = wsD s := by rw [hie]; exact x_W hs (by rw [← hie]; exact g0)
              have qI : xI s i = isD s := by rw [hie]; exact x_I hs (by rw [← hie]; omega)
              have hf := one29_D (⟨xP s i, true, xW s i, true, xI s i⟩ : Ch) (big zP) (big zW) (big zI)
              have hl := line46_D (⟨xP s i, true, xW s i, true, xI s i⟩ : Ch) ⟨zP, zW, zI⟩
              have eR : readD s = okC (⟨xP s i, true, xW s i, true, xI s i⟩ : Ch) s := by rw [rdd_4 a0 c1 c2 c3 (by rw [← aE, ← tE, ← eA]; exact c4), qP, qW, qI]
              repeat' (first | with_reducible rfl | ((conv => whnf); first | refine And.intro ?_ ?_ | (intro h; first | with_reducible exact tf_no h | with_reducible exact ft_no h | exact Bool.noConfusion h | with_reducible exact h | (exfalso; exact bt_x hT h) | (exfalso; exact bt_x c0 h) | (exfalso; exact bt_x c1 h) | (exfalso; exact bt_x c2 h) | (exfalso; exact bt_x c3 h) | (exfalso; exact bt_x c4 h) | (have ht : true = true := h; clear ht h) | skip) | ((with_reducible refine SCall.mark ?_); first | refine SCall.data (hf) rfl rfl ?_ | refine SCall.scal (hf) rfl rfl ?_ | refine SCall.data (hl) rfl rfl ?_ | refine SCall.scal (hl) rfl rfl ?_) | ((with_reducible refine PCall.mark ?_); first | refine PCall.mk (hf) rfl rfl ?_ | refine PCall.mk (hl) rfl rfl ?_) | ((with_reducible refine GCall.mark ?_); first | refine GCall.data (fun _ => hf) rfl rfl ?_ | refine GCall.scal (fun _ => hf) rfl rfl ?_ | refine GCall.data (fun _ => hl) rfl rfl ?_ | refine GCall.scal (fun _ => hl) rfl rfl ?_) | ((with_reducible refine MCall.mark ?_); first | refine MCall.data (fun _ => hf) rfl rfl ?_ | refine MCall.plain (PCall.mk (hf) rfl rfl ?_) | refine MCall.data (fun _ => hl) rfl rfl ?_ | refine MCall.plain (PCall.mk (hl) rfl rfl ?_)) | ((with_reducible refine Tri.mark ?_); first | (refine Tri.treeX [0] (MX.mv 0 0 (MX.mv 0 1 (MX.mv 2 2 (MX.mv 0 3 (MX.mv 0 6 (MX.mv 1 4 (MX.mv 2 5 (MX.mv 0 7 (MX.mv 0 8 (MX.mv 1 9 (MX.mv 1 10 MX.done))))))))))) ?_ (by kernel_rfl) ?_; rfl)) | ((with_reducible refine ECall.mark ?_); first | refine ECall.alt (strV (lineC (⟨xP s i, true, xW s i, true, xI s i⟩ : Ch))) (fun _ => SCall.data hl rfl rfl ?_) ?_ | refine ECall.only ?_ (fun h => nomatch h) | refine ECall.only ?_ ?_) | ((with_reducible refine Drawn.mark ?_); first | refine Drawn.quiet (by kernel_rfl) ?_) | refine dloadE_map (ch0) ?_ ?_ | refine dcell_ok rfl ?_ | refine AppC.new ?_))
              all_goals try first | ((with_reducible show Option.isSome (slElem _ _) = true); kernel_rfl) | ((with_reducible show slElem _ _ = some _); kernel_rfl) | ((with_reducible refine enters_mark ?_); kernel_rfl) | (with_reducible assumption) | ((with_reducible show List.all _ DV.one = true); rfl) | ((with_reducible show (_ : Nat) = _); rfl) | ((with_reducible show (_ == true) = true); first | (simp; done) | simpa using h) | ((with_reducible show (_ : Nat) ≤ _); exact Nat.le_of_ble_eq_true rfl) | ((with_reducible show (_ : Int) ≤ _); first | omega | decide) | ((with_reducible show (_ : Int) < _); first | omega | decide) | ((with_reducible show (_ : Nat) < _); omega) | ((with_reducible show (_ : Nat) ≤ _); omega)
              all_goals try (first | ((with_reducible show isStr _ _ = true); kernel_rfl) | (with_reducible exact tnb h) | ((with_reducible show Option.all _ _ = true); rfl) | ((with_reducible show (_ : Int) ≤ _); first | omega | (rw [eA]; omega) | (rw [eT]; omega) | (rw [eA, eT]; omega)) | ((with_reducible show (_ : Int) < _); first | omega | (rw [eA]; omega) | (rw [eT]; omega)))
              repeat' (first | with_reducible rfl | ((conv => whnf); first | refine And.intro ?_ ?_ | (intro h; first | with_reducible exact tf_no h | with_reducible exact ft_no h | exact Bool.noConfusion h | with_reducible exact h | (have ht : true = true := h; clear ht h) | skip) | ((with_reducible refine ECall.mark ?_); first | refine ECall.only ?_ (fun h => nomatch h) | refine ECall.only ?_ ?_) | ((with_reducible refine Drawn.mark ?_); first | refine Drawn.quiet (by kernel_rfl) ?_) | refine dloadE_map (ch0) ?_ ?_ | refine dcell_ok rfl ?_ | refine AppC.new ?_))
              all_goals (conv => whnf)
              all_goals exact Tells.of (congrArg rdV eR) (Tells.mk (DW.tupl (DWl.cons (DW.aggl (DWl.same rfl)) (DWl.cons (DW.same _ rfl) DWl.nil))))
          · have c3 := eq_false_of_ne_true c3
            have eR := rdd_5 a0 c1 c2 c3
            rw [← qP] at eR
            repeat' (first | with_reducible rfl | ((conv => whnf); first | refine And.intro ?_ ?_ | (intro h; first | with_reducible exact tf_no h | with_reducible exact ft_no h | exact Bool.noConfusion h | with_reducible exact h | (exfalso; exact bt_x hT h) | (exfalso; exact bt_x c0 h) | (exfalso; exact bt_x c1 h) | (exfalso; exact bt_x c2 h) | (exfalso; exact bt_x c3 h) | (have ht : true = true := h; clear ht h) | skip) | ((with_reducible refine ECall.mark ?_); first | refine ECall.only ?_ (fun h => nomatch h) | refine ECall.only ?_ ?_) | ((with_reducible refine Drawn.mark ?_); first | refine Drawn.quiet (by kernel_rfl) ?_) | refine dcell_ok rfl ?_ | refine AppC.new ?_))
            all_goals try first | ((with_reducible show Option.isSome (slElem _ _) = true); kernel_rfl) | ((with_reducible show slElem _ _ = some _); kernel_rfl) | ((with_reducible refine enters_mark ?_); kernel_rfl) | (with_reducible assumption) | ((with_reducible show List.all _ DV.one = true); rfl) | ((with_reducible show (_ : Nat) = _); rfl) | ((with_reducible show (_ == true) = true); first | (simp; done) | simpa using h) | ((with_reducible show (_ : Nat) ≤ _); exact Nat.le_of_ble_eq_true rfl) | ((with_reducible show (_ : Int) ≤ _); first | omega | decide) | ((with_reducible show (_ : Int) < _); first | omega | decide) | ((with_reducible show (_ : Nat) < _); omega) | ((with_reducible show (_ : Nat) ≤ _); omega)
            all_goals try (first | ((with_reducible show isStr _ _ = true); kernel_rfl) | (with_reducible exact tnb h) | ((with_reducible show Option.all _ _ = true); rfl) | ((with_reducible show (_ : Int) ≤ _); first | omega | (rw [eA]; omega) | (rw [eT]; omega) | (rw [eA, eT]; omega)) | ((with_reducible show (_ : Int) < _); first | omega | (rw [eA]; omega) | (rw [eT]; omega)))
            all_goals (conv => whnf)
            all_goals exact Tells.of (congrArg rdV eR) (Tells.mk (DW.tupl (DWl.cons (DW.aggl (DWl.same rfl)) (DWl.cons (DW.same _ rfl) DWl.nil))))
end Go.Proofs.YtagfmppjlfhmeaaGreatDoor
namespace Go.Proofs.YtagfmppjlfhmeaaGreatDoor
open Go.RowKit Go.Dl
theorem no_scan {t : ByteArray} {a k : Nat} (h : ∀ j, a ≤ j → j < k → byteAt t j ≠ 10) : No 10 (t.extract a k) := by
  intro y hy e
  rw [ByteArray.data_extract, Array.toList_extract, List.extract_eq_take_drop] at hy
  obtain ⟨i, hi, hyi⟩ := List.getElem_of_mem hy
  have h0 : ((t.data.toList.drop a).take (k - a))[i]? = some y := by rw [← hyi]; exact List.getElem?_eq_getElem hi
  have h1 : i < k - a := by
    rw [List.length_take] at hi; omega
  rw [List.getElem?_take, if_pos h1, List.getElem?_drop] at h0
  refine h (a + i) (by omega) (by omega) ?_
  unfold byteAt
  rw [List.getD_eq_getElem?_getD, h0, e]; rfl
theorem byte_one {t : ByteArray} {k : Nat} (hk : k < t.size) (h : byteAt t k = 10) : t.extract k (k + 1) = nlB := by
  rw [ByteArray.extract_add_one (by omega)]
  have e : t[k] = 10 := by
    have h1 : t.data.toList[k]? = some t[k] := by
      rw [List.getElem?_eq_getElem (by rw [ba_len]; exact hk)]; rfl
    unfold byteAt at h
    rw [List.getD_eq_getElem?_getD, h1] at h
    have h2 : t[k].toNat = 10 := Int.ofNat.inj h
    exact UInt8.toNat_inj.1 h2
  rw [e]; rfl
theorem cut_scan {t : ByteArray} {a k : Nat} (ha : a ≤ k) (hk : k < t.size) (hno : ∀ j, a ≤ j → j < k → byteAt t j ≠ 10) (h10 : byteAt t k = 10) : lineOf (t.extract a t.size) = t.extract a k ∧ restOf (t.extract a t.size) = t.extract (k + 1) t.size ∧ endOf (t.extract a t.size) = true := by
  have e1 := @ByteArray.extract_eq_extract_append_extract t a t.size k ha (by omega)
  have e2 := @ByteArray.extract_eq_extract_append_extract t k t.size (k + 1) (by omega) (by omega)
  have e : t.extract a t.size = t.extract a k ++ nlB ++ t.extract (k + 1) t.size := by
    rw [e1, e2, byte_one hk h10, ← ByteArray.append_assoc]
  have c := cut_nl (b := t.extract (k + 1) t.size) (no_scan hno)
  unfold lineOf restOf endOf
  rw [e, c]
  exact ⟨rfl, rfl, rfl⟩
theorem end_none {t : ByteArray} {a : Nat} (hno : ∀ j, a ≤ j → j < t.size → byteAt t j ≠ 10) : endOf (t.extract a t.size) = false := by
  have hn := no_scan (k := t.size) hno
  have hi := Lib.index_none (s := (t.extract a t.size).data.toList) (sub := nlB.data.toList) (fun j _ => by
    refine Bool.eq_false_iff.2 fun h => ?_
    have := Lib.occAt_head (c := 10) (t := []) rfl h
    exact hn 10 (List.mem_of_getElem? this) rfl)
  unfold endOf cutT Lib.cut
  rw [hi, if_neg (by decide)]
theorem ext_z (t : ByteArray) (a : Nat) : (t.extract a t.size).size = t.size - a := by rw [ByteArray.size_extract]; omega
theorem ext_em {t : ByteArray} {a : Nat} (h : a = t.size) : (t.extract a t.size != emB) = false := by
  subst h
  rw [ByteArray.extract_same]; rfl
theorem ext_ne {t : ByteArray} {a : Nat} (h : a < t.size) : (t.extract a t.size != emB) = true := by
  refine bne_iff.2 fun e => ?_
  have := congrArg ByteArray.size e
  rw [ext_z] at this
  have e2 : emB.size = 0 := rfl
  omega
structure Qi where
  n : Nat
  a : Nat
  o : List Ch
def QiI (t : ByteArray) (q : Qi) : Prop := q.a ≤ t.size ∧ t.size - q.a < q.n ∧ q.o.length + (t.size - q.a) ≤ t.size ∧ parN q.n (t.extract q.a t.size) q.o = parseT t
theorem qi_0 (t : ByteArray) : QiI t ⟨t.size + 1, 0, []⟩ := by
  refine ⟨Nat.zero_le _, ?_, ?_, ?_⟩
  · show t.size - 0 < t.size + 1
    omega
  · show 0 + (t.size - 0) ≤ t.size
    omega
  · show parN (t.size + 1) (t.extract 0 t.size) [] = parseT t
    rw [ByteArray.extract_zero_size]; rfl
theorem q_end {t : ByteArray} {q : Qi} (h : QiI t q) (ha : q.a = t.size) : parseT t = (q.o, 0, 0) := by
  obtain ⟨h1, h2, h3, h4⟩ := h
  rw [← h4, pn_end (by rw [ext_z]; exact h2) (ext_em ha)]
theorem q_none {t : ByteArray} {q : Qi} (h : QiI t q) (ha : q.a < t.size) (hno : ∀ j, q.a ≤ j → j < t.size → byteAt t j ≠ 10) : parseT t = ([], ((q.o.length + 1 : Nat) : Int), 20) := by
  obtain ⟨h1, h2, h3, h4⟩ := h
  rw [← h4, pn_bad (by rw [ext_z]; exact h2) (ext_ne ha) (by rw [end_none hno]; cases (readC (lineOf (t.extract q.a t.size))).2 <;> rfl)]
theorem q_bad {t : ByteArray} {q : Qi} {k : Nat} (h : QiI t q) (ha : q.a ≤ k) (hk : k < t.size) (hno : ∀ j, q.a ≤ j → j < k → byteAt t j ≠ 10) (h10 : byteAt t k = 10) (hb : (readD (t.extract q.a k)).2 = false) : parseT t = ([], ((q.o.length + 1 : Nat) : Int), 20) := by
  obtain ⟨h1, h2, h3, h4⟩ := h
  obtain ⟨c1, c2, c3⟩ := cut_scan ha hk hno h10
  rw [← h4, pn_bad (by rw [ext_z]; exact h2) (ext_ne (by omega)) (by rw [c1, (read_two _).1, hb]; rfl)]
theorem q_low {t : ByteArray} {q : Qi} {k : Nat} (h : QiI t q) (ha : q.a ≤ k) (hk : k < t.size) (hno : ∀ j, q.a ≤ j → j < k → byteAt t j ≠ 10) (h10 : byteAt t k = 10) (hb : (readD (t.extract q.a k)).2 = true) (hl : lowB q.o (readD (t.extract q.a k)).1 = true) : parseT t = ([], ((q.o.length + 1 : Nat) : Int), 54) := by
  obtain ⟨h1, h2, h3, h4⟩ := h
  obtain ⟨c1, c2, c3⟩ := cut_scan ha hk hno h10
  have hr : (readC (t.extract q.a k)).2 = true := by rw [(read_two _).1]; exact hb
  have he := (read_two _).2 hr
  rw [← h4, pn_low (by rw [ext_z]; exact h2) (ext_ne (by omega)) (by rw [c1, c3, hr]; rfl) (by rw [c1, he]; exact hl)]
theorem q_next {t : ByteArray} {q : Qi} {k : Nat} (h : QiI t q) (ha : q.a ≤ k) (hk : k < t.size) (hno : ∀ j, q.a ≤ j → j < k → byteAt t j ≠ 10) (h10 : byteAt t k = 10) (hb : (readD (t.extract q.a k)).2 = true) (hl : lowB q.o (readD (t.extract q.a k)).1 = false) : QiI t ⟨q.n - 1, k + 1, q.o ++ [(readD (t.extract q.a k)).1]⟩ ∧ q.n - 1 < q.n := by
  obtain ⟨h1, h2, h3, h4⟩ := h
  obtain ⟨c1, c2, c3⟩ := cut_scan ha hk hno h10
  have hr : (readC (t.extract q.a k)).2 = true := by rw [(read_two _).1]; exact hb
  have he := (read_two _).2 hr
  refine ⟨⟨?_, ?_, ?_, ?_⟩, by omega⟩
  · show k + 1 ≤ t.size
    omega
  · show t.size - (k + 1) < q.n - 1
    omega
  · show (q.o ++ [_]).length + (t.size - (k + 1)) ≤ t.size
    rw [List.length_append, List.length_singleton]; omega
  · show parN (q.n - 1) (t.extract (k + 1) t.size) (q.o ++ [_]) = parseT t
    have hn := pn_next (n := q.n) (t := t.extract q.a t.size) (o := q.o) (by rw [ext_z]; exact h2) (ext_ne (by omega)) (by rw [c1, c3, hr]; rfl) (by rw [c1, he]; exact hl)
    rw [c1, c2, he] at hn
    rw [← h4, hn]
end Go.Proofs.YtagfmppjlfhmeaaGreatDoor
namespace Go.Proofs.YtagfmppjlfhmeaaGreatDoor
open Go.RowKit Go.Dl
attribute [local irreducible] Tri SCall TSem ECall Drawn DFun QSem PSem PCall GCall MCall Round Weak dloadE OW DWl Tells IntKind.wrap Retold ESem
def nilS : DV := .v (.slice none 0 0)
def outSt (t : ByteArray) (q : Qi) : St := ⟨0, tmOf [(0, strV t), (2, nilS), (3, int1 0), (4, int1 0), (5, .arr 0 q.o.length), (6, int1 (q.o.length : Nat)), (7, int1 (q.a : Nat))], .of [(0, ⟨56, 5, rowC q.o⟩)] 1⟩
def inSt (t : ByteArray) (q : Qi) (k : Nat) : St := ⟨0, tmOf [(0, strV t), (2, nilS), (3, int1 0), (4, int1 0), (5, .arr 0 q.o.length), (6, int1 ((q.o.length + 1 : Nat) : Int)), (7, int1 (q.a : Nat)), (8, int1 (k : Nat))], .of [(0, ⟨56, 5, rowC q.o⟩)] 1⟩
def pdV (r : List Ch × Int × Int) : DV := .tup [chs r.1, int1 r.2.1, int1 r.2.2]
theorem wl_1 {n : Nat} (h : n ≤ 1600000) : IntKind.i64.wrap ((n : Int) + 1) = ((n + 1 : Nat) : Int) := wsucc (n := 2000000) (by omega) (by omega)
theorem len_p (o : List Ch) (x : Ch) : ((o.length + 1 : Nat) : Int) = (((o ++ [x]).length : Nat) : Int) := by rw [List.length_append]; rfl
attribute [local irreducible] readD readC lineOf restOf endOf parN rowC ByteArray.extract cutT byteAt parseT
set_option maxRecDepth 100000 in
set_option maxHeartbeats 8000000 in
theorem parse16_D (t : ByteArray) (ht : t.size ≤ 1600000) : DPure Tryz.prog 16 [strV t] (pdV (parseT t)) := by
  refine DFun.data (DFun.body Tryz.func16 rfl (by kernel_rfl) ?_)
  repeat' (first | with_reducible rfl | ((conv => whnf); first | refine And.intro ?_ ?_ | (intro h; first | with_reducible exact tf_no h | with_reducible exact ft_no h | exact Bool.noConfusion h | with_reducible exact h | (have ht : true = true := h; clear ht h) | skip) | ((with_reducible refine ECall.mark ?_); first | refine ECall.only ?_ (fun h => nomatch h) | refine ECall.only ?_ ?_) | ((with_reducible refine Drawn.mark ?_); first | refine Drawn.quiet (by kernel_rfl) ?_) | refine dcell_ok rfl ?_ | refine AppC.new ?_))
  all_goals first | (with_reducible refine enters_mark ?_; kernel_rfl) | (with_reducible refine boolT_mark ?_; kernel_rfl) | rfl | trivial | assumption | exact Nat.le_of_ble_eq_true rfl | (show entersB _ _ = true; kernel_rfl) | exact DW.same _ rfl | exact DW.ref _ _ _ rfl | exact DW.arr _ _ _ rfl | refine DW.int ?_ | refine dvb ?_ | refine dvi ?_ | exact OW.cells rfl rfl (DWl.same rfl) | exact Nat.zero_le _ | omega | skip
  all_goals repeat' (first | refine OW.cells rfl rfl ?_ | exact DW.nilArr _ rfl | refine DWl.cons ?_ ?_ | exact DWl.nil | exact DW.same _ rfl | exact DW.ref _ _ _ rfl | exact DW.arr _ _ _ rfl | exact DW.sub _ _ _ _ rfl | exact DW.mo _ _ rfl | exact DW.nilLst _ | refine DW.aggl ?_ | refine DW.tupl ?_ | refine DW.clol ?_ ?_)
  all_goals try ((conv => whnf); with_reducible first | refine Round.mark ?_ | refine Tells.mark ?_ | refine Retold.mark ?_)
  all_goals try first | (show (_ : Bool) = _; simp_all; done) | (show (_ : Int) < _; simp at *; omega) | (show (_ : Int) ≤ _; simp at *; omega) | (show (_ : Nat) < _; simp at *; omega) | (show (_ : Nat) ≤ _; simp at *; omega)
  conv => whnf
  refine Tri.loop (outSt t) (QiI t) (fun q => q.n) ⟨t.size + 1, 0, []⟩ (by kernel_rfl) (Weak.list [(0, none)] [] (by kernel_rfl) ?_ ?_) (qi_0 t) ?_
  iterate 2 · repeat' (first | exact DW.nilArr _ rfl | exact rc_nil | exact DW.same _ rfl | exact DW.ref _ _ _ rfl | exact DW.arr _ _ _ rfl | exact OW.cells rfl rfl (DWl.same rfl) | refine OW.cells rfl rfl ?_ | refine DWl.cons ?_ ?_ | exact DWl.nil | exact DW.nilArr _ rfl | exact DW.nilLst _ | refine DW.clol ?_ ?_ | refine DW.aggl ?_ | refine DW.tupl ?_ | refine DW.int ?_ | refine DW.bool ?_ | refine DW.str ?_ | refine DW.arrE rfl ?_ | ((conv => whnf); first | refine And.intro ?_ ?_ | trivial))
  intro q hq
  obtain ⟨n, a, o⟩ := q
  have hq0 := hq
  obtain ⟨q1, q2, q3, q4⟩ := hq
  simp only at q1 q2 q3 q4
  have hol1 : o.length ≤ 1600000 := by omega
  have hol : o.length ≤ 8388608 := by omega
  show dcode _ _ _ _ (outSt t ⟨n, a, o⟩) _
  by_cases ha : a < t.size
  · have hT : decide ((a : Int) < (t.size : Int)) = true := decide_eq_true (by omega)
    repeat' (first | with_reducible rfl | ((conv => whnf); first | refine And.intro ?_ ?_ | (intro h; first | with_reducible exact tf_no h | with_reducible exact ft_no h | exact Bool.noConfusion h | with_reducible exact h | (exfalso; exact bt_x hT h) | (have ht : true = true := h; clear ht h) | skip) | ((with_reducible refine ECall.mark ?_); first | refine ECall.only ?_ (fun h => nomatch h) | refine ECall.only ?_ ?_) | ((with_reducible refine Drawn.mark ?_); first | refine Drawn.quiet (by kernel_rfl) ?_) | refine dcell_ok rfl ?_ | refine AppC.new ?_))
    all_goals try first | ((with_reducible show Option.isSome (slElem _ _) = true); kernel_rfl) | ((with_reducible show slElem _ _ = some _); kernel_rfl) | ((with_reducible refine enters_mark ?_); kernel_rfl) | (with_reducible assumption) | ((with_reducible show List.all _ DV.one = true); rfl) | ((with_reducible show (_ : Nat) = _); rfl) | ((with_reducible show (_ == true) = true); first | (simp; done) | simpa using h) | ((with_reducible show (_ : Nat) ≤ _); exact Nat.le_of_ble_eq_true rfl) | ((with_reducible show (_ : Int) ≤ _); first | omega | decide) | ((with_reducible show (_ : Int) < _); first | omega | decide) | ((with_reducible show (_ : Nat) < _); omega) | ((with_reducible show (_ : Nat) ≤ _); omega)
    all_goals try ((with_reducible show isStr _ _ = true); kernel_rfl)
    conv => whnf
    refine Tri.loop (inSt t ⟨n, a, o⟩) (fun k => a ≤ k ∧ k ≤ t.size ∧ ∀ j, a ≤ j → j < k → byteAt t j ≠ 10) (fun k => t.size - k) a (by kernel_rfl) (Weak.list [(0, some 0)] [] (by kernel_rfl) ?_ ?_) ⟨Nat.le_refl _, by omega, fun j h1 h2 => absurd h1 (by omega)⟩ ?_
    iterate 2 · repeat' (first | exact DW.int (wl_1 hol1) | exact DWl.same (rowC_all _) | exact DW.same _ rfl | exact DW.ref _ _ _ rfl | exact DW.arr _ _ _ rfl | exact OW.cells rfl rfl (DWl.same rfl) | refine OW.cells rfl rfl ?_ | refine DWl.cons ?_ ?_ | exact DWl.nil | exact DW.nilArr _ rfl | exact DW.nilLst _ | refine DW.clol ?_ ?_ | refine DW.aggl ?_ | refine DW.tupl ?_ | refine DW.int ?_ | refine DW.bool ?_ | refine DW.str ?_ | refine DW.arrE rfl ?_ | ((conv => whnf); first | refine And.intro ?_ ?_ | trivial))
    intro k hk
    obtain ⟨k1, k2, k3⟩ := hk
    show dcode _ _ _ _ (inSt t ⟨n, a, o⟩ k) _
    by_cases hks : k < t.size
    · have hK : decide ((k : Int) < (t.size : Int)) = true := decide_eq_true (by omega)
      by_cases h10 : byteAt t k = 10
      · have hC : (bif decide ((k : Int) < (t.size : Int)) then byteAt t (Int.toNat (k : Int)) != 10 else false) = false := by rw [hK]; show (byteAt t k != 10) = false; rw [h10]; rfl
        have hE : ((k : Int) == (t.size : Int)) = false := beq_eq_false_iff_ne.2 (by omega)
        have hr := read41_D (t.extract a k) (Nat.le_trans (ext_sz t a k) ht)
        by_cases hb : (readD (t.extract a k)).2 = true
        · have hB : (!(readD (t.extract a k)).2) = false := by rw [hb]; rfl
          by_cases hp : 0 < o.length
          · have hdp : decide (0 < ((o.length : Nat) : Int)) = true := decide_eq_true (by omega)
            by_cases hl : lowB o (readD (t.extract a k)).1 = true
            · have eR : parseT t = ([], ((o.length + 1 : Nat) : Int), 54) := q_low hq0 k1 hks k3 h10 hb hl
              have hL : (bif decide (0 < ((o.length : Nat) : Int)) then !Op.bytesLess (o.getD (o.length - 1) ch0).p.toList (readD (t.extract a k)).1.p.toList else false) = true := hl
              repeat' (first | with_reducible rfl | ((conv => whnf); first | refine And.intro ?_ ?_ | (intro h; first | with_reducible exact tf_no h | with_reducible exact ft_no h | exact Bool.noConfusion h | with_reducible exact h | (exfalso; exact bt_x hC h) | (exfalso; exact bt_x hE h) | (exfalso; exact bt_x hB h) | (exfalso; exact bt_x hL h) | (have ht : true = true := h; clear ht h) | skip) | ((with_reducible refine SCall.mark ?_); first | refine SCall.data (hr) rfl rfl ?_ | refine SCall.scal (hr) rfl rfl ?_) | ((with_reducible refine PCall.mark ?_); first | refine PCall.mk (hr) rfl rfl ?_) | ((with_reducible refine GCall.mark ?_); first | refine GCall.data (fun _ => hr) rfl rfl ?_ | refine GCall.scal (fun _ => hr) rfl rfl ?_) | ((with_reducible refine MCall.mark ?_); first | refine MCall.data (fun _ => hr) rfl rfl ?_ | refine MCall.plain (PCall.mk (hr) rfl rfl ?_)) | ((with_reducible refine ECall.mark ?_); first | refine ECall.only ?_ (fun h => nomatch h) | refine ECall.only ?_ ?_) | ((with_reducible refine Drawn.mark ?_); first | refine Drawn.quiet (by kernel_rfl) ?_) | refine dloadE_map (ch0) ?_ ?_ | refine dcell_ok rfl ?_ | refine dcell_at (strV (o.getD (o.length - 1) ch0).p) (fun _ => row_gt hol1 hp) ?_ | refine dcell_ok rfl ?_ | refine AppC.new ?_))
              all_goals try first | ((with_reducible show Option.isSome (slElem _ _) = true); kernel_rfl) | ((with_reducible show slElem _ _ = some _); kernel_rfl) | ((with_reducible refine enters_mark ?_); kernel_rfl) | (with_reducible assumption) | ((with_reducible show List.all _ DV.one = true); rfl) | ((with_reducible show (_ : Nat) = _); rfl) | ((with_reducible show (_ == true) = true); first | (simp; done) | simpa using h) | ((with_reducible show (_ : Nat) ≤ _); exact Nat.le_of_ble_eq_true rfl) | ((with_reducible show (_ : Int) ≤ _); first | omega | decide) | ((with_reducible show (_ : Int) < _); first | omega | decide) | ((with_reducible show (_ : Nat) < _); omega) | ((with_reducible show (_ : Nat) ≤ _); omega)
              all_goals try (first | ((with_reducible show (_ : Nat) < List.length [_, _]); exact lt2 _ _ (by decide)) | ((with_reducible show isStr _ _ = true); kernel_rfl) | (with_reducible exact tnb h) | ((with_reducible show Option.all _ _ = true); rfl) | (exact lp_1 hol1 hp; done) | (exact lp_2 hol1 hp; done) | (exact gp1 hdp; done) | (exact gx1 hdp h; done) | ((with_reducible show (_ + 1) * _ ≤ _); exact rc_b2 hol) | ((with_reducible show _ + 1 ≤ maxLen); exact rc_b3 hol) | (exact rc_b1 o; done) | (exact Int.ofNat_le.2 k1; done) | (exact of_decide_eq_true (beq_iff_eq.1 h); done) | ((with_reducible show (_ : Int) ≤ _); omega) | ((with_reducible show (_ : Int) < _); omega))
              all_goals (conv => whnf)
              all_goals exact Tells.of (congrArg pdV eR) (Tells.mk (DW.tupl (DWl.cons (DW.nilLst _) (DWl.cons (DW.same _ rfl) (DWl.cons (DW.same _ rfl) DWl.nil)))))
            · have hl := eq_false_of_ne_true hl
              obtain ⟨n1, n2⟩ := q_next hq0 k1 hks k3 h10 hb hl
              have hL : (bif decide (0 < ((o.length : Nat) : Int)) then !Op.bytesLess (o.getD (o.length - 1) ch0).p.toList (readD (t.extract a k)).1.p.toList else false) = false := hl
              repeat' (first | with_reducible rfl | ((conv => whnf); first | refine And.intro ?_ ?_ | (intro h; first | with_reducible exact tf_no h | with_reducible exact ft_no h | exact Bool.noConfusion h | with_reducible exact h | (exfalso; exact bt_x hC h) | (exfalso; exact bt_x hE h) | (exfalso; exact bt_x hB h) | (exfalso; exact bt_x hL h) | (have ht : true = true := h; clear ht h) | skip) | ((with_reducible refine SCall.mark ?_); first | refine SCall.data (hr) rfl rfl ?_ | refine SCall.scal (hr) rfl rfl ?_) | ((with_reducible refine PCall.mark ?_); first | refine PCall.mk (hr) rfl rfl ?_) | ((with_reducible refine GCall.mark ?_); first | refine GCall.data (fun _ => hr) rfl rfl ?_ | refine GCall.scal (fun _ => hr) rfl rfl ?_) | ((with_reducible refine MCall.mark ?_); first | refine MCall.data (fun _ => hr) rfl rfl ?_ | refine MCall.plain (PCall.mk (hr) rfl rfl ?_)) | ((with_reducible refine ECall.mark ?_); first | refine ECall.only ?_ (fun h => nomatch h) | refine ECall.only ?_ ?_) | ((with_reducible refine Drawn.mark ?_); first | refine Drawn.quiet (by kernel_rfl) ?_) | refine dloadE_map (ch0) ?_ ?_ | refine dcell_ok rfl ?_ | refine dcell_at (strV (o.getD (o.length - 1) ch0).p) (fun _ => row_gt hol1 hp) ?_ | refine dcell_ok rfl ?_ | refine AppC.new ?_))
              all_goals try ((conv => whnf); with_reducible refine Round.mark ?_)
              all_goals try first | ((with_reducible show Option.isSome (slElem _ _) = true); kernel_rfl) | ((with_reducible show slElem _ _ = some _); kernel_rfl) | ((with_reducible refine enters_mark ?_); kernel_rfl) | (with_reducible assumption) | ((with_reducible show List.all _ DV.one = true); rfl) | ((with_reducible show (_ : Nat) = _); rfl) | ((with_reducible show (_ == true) = true); first | (simp; done) | simpa using h) | ((with_reducible show (_ : Nat) ≤ _); exact Nat.le_of_ble_eq_true rfl) | ((with_reducible show (_ : Int) ≤ _); first | omega | decide) | ((with_reducible show (_ : Int) < _); first | omega | decide) | ((with_reducible show (_ : Nat) < _); omega) | ((with_reducible show (_ : Nat) ≤ _); omega)
              all_goals try (first | ((with_reducible show (_ : Nat) < List.length [_, _]); exact lt2 _ _ (by decide)) | ((with_reducible show isStr _ _ = true); kernel_rfl) | (with_reducible exact tnb h) | ((with_reducible show Option.all _ _ = true); rfl) | (exact lp_1 hol1 hp; done) | (exact lp_2 hol1 hp; done) | (exact gp1 hdp; done) | (exact gx1 hdp h; done) | ((with_reducible show (_ + 1) * _ ≤ _); exact rc_b2 hol) | ((with_reducible show _ + 1 ≤ maxLen); exact rc_b3 hol) | (exact rc_b1 o; done) | (exact Int.ofNat_le.2 k1; done) | (exact of_decide_eq_true (beq_iff_eq.1 h); done) | ((with_reducible show (_ : Int) ≤ _); omega) | ((with_reducible show (_ : Int) < _); omega))
              refine Round.go (fun _ => Qi.mk (n - 1) (k + 1) (o ++ [(readD (t.extract a k)).1])) n1 n2 (Weak.list [(0, some 3)] [] (by kernel_rfl) ?_ ?_)
              iterate 2 · repeat' (first | exact DW.int (len_p _ _) | exact DW.int (wl_1 (Nat.le_trans k2 ht)) | exact DW.arrE rfl (pushC _ _) | exact DWl.eq (Eq.trans (by kernel_rfl) (rowC_push o (readD (t.extract a k)).1)) (rowC_all _) | exact DW.same _ rfl | exact DW.ref _ _ _ rfl | exact DW.arr _ _ _ rfl | exact OW.cells rfl rfl (DWl.same rfl) | refine OW.cells rfl rfl ?_ | refine DWl.cons ?_ ?_ | exact DWl.nil | exact DW.nilArr _ rfl | exact DW.nilLst _ | refine DW.clol ?_ ?_ | refine DW.aggl ?_ | refine DW.tupl ?_ | refine DW.int ?_ | refine DW.bool ?_ | refine DW.str ?_ | refine DW.arrE rfl ?_ | ((conv => whnf); first | refine And.intro ?_ ?_ | trivial))
          · have hdp : decide (0 < ((o.length : Nat) : Int)) = false := decide_eq_false (by omega)
            have hl : lowB o (readD (t.extract a k)).1 = false := by unfold lowB; rw [hdp]; rfl
            obtain ⟨n1, n2⟩ := q_next hq0 k1 hks k3 h10 hb hl
            have hL : (bif decide (0 < ((o.length : Nat) : Int)) then !Op.bytesLess emB.toList (readD (t.extract a k)).1.p.toList else false) = false := by rw [hdp]; rfl
            repeat' (first | with_reducible rfl | ((conv => whnf); first | refine And.intro ?_ ?_ | (intro h; first | with_reducible exact tf_no h | with_reducible exact ft_no h | exact Bool.noConfusion h | with_reducible exact h | (exfalso; exact bt_x hC h) | (exfalso; exact bt_x hE h) | (exfalso; exact bt_x hB h) | (exfalso; exact bt_x hL h) | (have ht : true = true := h; clear ht h) | skip) | ((with_reducible refine SCall.mark ?_); first | refine SCall.data (hr) rfl rfl ?_ | refine SCall.scal (hr) rfl rfl ?_) | ((with_reducible refine PCall.mark ?_); first | refine PCall.mk (hr) rfl rfl ?_) | ((with_reducible refine GCall.mark ?_); first | refine GCall.data (fun _ => hr) rfl rfl ?_ | refine GCall.scal (fun _ => hr) rfl rfl ?_) | ((with_reducible refine MCall.mark ?_); first | refine MCall.data (fun _ => hr) rfl rfl ?_ | refine MCall.plain (PCall.mk (hr) rfl rfl ?_)) | ((with_reducible refine ECall.mark ?_); first | refine ECall.only ?_ (fun h => nomatch h) | refine ECall.only ?_ ?_) | ((with_reducible refine Drawn.mark ?_); first | refine Drawn.quiet (by kernel_rfl) ?_) | refine dloadE_map (ch0) ?_ ?_ | refine dcell_ok rfl ?_ | refine dcell_at (strV emB) (fun hg => gx1 hdp hg) ?_ | refine dcell_ok rfl ?_ | refine AppC.new ?_))
            all_goals try ((conv => whnf); with_reducible refine Round.mark ?_)
            all_goals try first | ((with_reducible show Option.isSome (slElem _ _) = true); kernel_rfl) | ((with_reducible show slElem _ _ = some _); kernel_rfl) | ((with_reducible refine enters_mark ?_); kernel_rfl) | (with_reducible assumption) | ((with_reducible show List.all _ DV.one = true); rfl) | ((with_reducible show (_ : Nat) = _); rfl) | ((with_reducible show (_ == true) = true); first | (simp; done) | simpa using h) | ((with_reducible show (_ : Nat) ≤ _); exact Nat.le_of_ble_eq_true rfl) | ((with_reducible show (_ : Int) ≤ _); first | omega | decide) | ((with_reducible show (_ : Int) < _); first | omega | decide) | ((with_reducible show (_ : Nat) < _); omega) | ((with_reducible show (_ : Nat) ≤ _); omega)
            all_goals try (first | ((with_reducible show (_ : Nat) < List.length [_, _]); exact lt2 _ _ (by decide)) | ((with_reducible show isStr _ _ = true); kernel_rfl) | (with_reducible exact tnb h) | ((with_reducible show Option.all _ _ = true); rfl) | (exact lp_1 hol1 hp; done) | (exact lp_2 hol1 hp; done) | (exact gp1 hdp; done) | (exact gx1 hdp h; done) | ((with_reducible show (_ + 1) * _ ≤ _); exact rc_b2 hol) | ((with_reducible show _ + 1 ≤ maxLen); exact rc_b3 hol) | (exact rc_b1 o; done) | (exact Int.ofNat_le.2 k1; done) | (exact of_decide_eq_true (beq_iff_eq.1 h); done) | ((with_reducible show (_ : Int) ≤ _); omega) | ((with_reducible show (_ : Int) < _); omega))
            refine Round.go (fun _ => Qi.mk (n - 1) (k + 1) (o ++ [(readD (t.extract a k)).1])) n1 n2 (Weak.list [(0, some 3)] [] (by kernel_rfl) ?_ ?_)
            iterate 2 · repeat' (first | exact DW.int (len_p _ _) | exact DW.int (wl_1 (Nat.le_trans k2 ht)) | exact DW.arrE rfl (pushC _ _) | exact DWl.eq (Eq.trans (by kernel_rfl) (rowC_push o (readD (t.extract a k)).1)) (rowC_all _) | exact DW.same _ rfl | exact DW.ref _ _ _ rfl | exact DW.arr _ _ _ rfl | exact OW.cells rfl rfl (DWl.same rfl) | refine OW.cells rfl rfl ?_ | refine DWl.cons ?_ ?_ | exact DWl.nil | exact DW.nilArr _ rfl | exact DW.nilLst _ | refine DW.clol ?_ ?_ | refine DW.aggl ?_ | refine DW.tupl ?_ | refine DW.int ?_ | refine DW.bool ?_ | refine DW.str ?_ | refine DW.arrE rfl ?_ | ((conv => whnf); first | refine And.intro ?_ ?_ | trivial))
        · have hb := eq_false_of_ne_true hb
          have hB : (!(readD (t.extract a k)).2) = true := by rw [hb]; rfl
          have eR : parseT t = ([], ((o.length + 1 : Nat) : Int), 20) := q_bad hq0 k1 hks k3 h10 hb
          repeat' (first | with_reducible rfl | ((conv => whnf); first | refine And.intro ?_ ?_ | (intro h; first | with_reducible exact tf_no h | with_reducible exact ft_no h | exact Bool.noConfusion h | with_reducible exact h | (exfalso; exact bt_x hC h) | (exfalso; exact bt_x hE h) | (exfalso; exact bt_x hB h) | (have ht : true = true := h; clear ht h) | skip) | ((with_reducible refine SCall.mark ?_); first | refine SCall.data (hr) rfl rfl ?_ | refine SCall.scal (hr) rfl rfl ?_) | ((with_reducible refine PCall.mark ?_); first | refine PCall.mk (hr) rfl rfl ?_) | ((with_reducible refine GCall.mark ?_); first | refine GCall.data (fun _ => hr) rfl rfl ?_ | refine GCall.scal (fun _ => hr) rfl rfl ?_) | ((with_reducible refine MCall.mark ?_); first | refine MCall.data (fun _ => hr) rfl rfl ?_ | refine MCall.plain (PCall.mk (hr) rfl rfl ?_)) | ((with_reducible refine ECall.mark ?_); first | refine ECall.only ?_ (fun h => nomatch h) | refine ECall.only ?_ ?_) | ((with_reducible refine Drawn.mark ?_); first | refine Drawn.quiet (by kernel_rfl) ?_) | refine dloadE_map (ch0) ?_ ?_ | refine dcell_ok rfl ?_ | refine AppC.new ?_))
          all_goals try first | ((with_reducible show Option.isSome (slElem _ _) = true); kernel_rfl) | ((with_reducible show slElem _ _ = some _); kernel_rfl) | ((with_reducible refine enters_mark ?_); kernel_rfl) | (with_reducible assumption) | ((with_reducible show List.all _ DV.one = true); rfl) | ((with_reducible show (_ : Nat) = _); rfl) | ((with_reducible show (_ == true) = true); first | (simp; done) | simpa using h) | ((with_reducible show (_ : Nat) ≤ _); exact Nat.le_of_ble_eq_true rfl) | ((with_reducible show (_ : Int) ≤ _); first | omega | decide) | ((with_reducible show (_ : Int) < _); first | omega | decide) | ((with_reducible show (_ : Nat) < _); omega) | ((with_reducible show (_ : Nat) ≤ _); omega)
          all_goals try (first | ((with_reducible show (_ : Nat) < List.length [_, _]); exact lt2 _ _ (by decide)) | ((with_reducible show isStr _ _ = true); kernel_rfl) | (with_reducible exact tnb h) | ((with_reducible show Option.all _ _ = true); rfl) | (exact lp_1 hol1 hp; done) | (exact lp_2 hol1 hp; done) | (exact gp1 hdp; done) | (exact gx1 hdp h; done) | ((with_reducible show (_ + 1) * _ ≤ _); exact rc_b2 hol) | ((with_reducible show _ + 1 ≤ maxLen); exact rc_b3 hol) | (exact rc_b1 o; done) | (exact Int.ofNat_le.2 k1; done) | (exact of_decide_eq_true (beq_iff_eq.1 h); done) | ((with_reducible show (_ : Int) ≤ _); omega) | ((with_reducible show (_ : Int) < _); omega))
          all_goals (conv => whnf)
          all_goals exact Tells.of (congrArg pdV eR) (Tells.mk (DW.tupl (DWl.cons (DW.nilLst _) (DWl.cons (DW.same _ rfl) (DWl.cons (DW.same _ rfl) DWl.nil)))))
      · have hC : (bif decide ((k : Int) < (t.size : Int)) then byteAt t (Int.toNat (k : Int)) != 10 else false) = true := by rw [hK]; exact bne_iff_ne.2 h10
        repeat' (first | with_reducible rfl | ((conv => whnf); first | refine And.intro ?_ ?_ | (intro h; first | with_reducible exact tf_no h | with_reducible exact ft_no h | exact Bool.noConfusion h | with_reducible exact h | (exfalso; exact bt_x hC h) | (have ht : true = true := h; clear ht h) | skip) | ((with_reducible refine ECall.mark ?_); first | refine ECall.only ?_ (fun h => nomatch h) | refine ECall.only ?_ ?_) | ((with_reducible refine Drawn.mark ?_); first | refine Drawn.quiet (by kernel_rfl) ?_) | refine dcell_ok rfl ?_ | refine AppC.new ?_))
        all_goals try ((conv => whnf); with_reducible refine Round.mark ?_)
        all_goals try first | ((with_reducible show Option.isSome (slElem _ _) = true); kernel_rfl) | ((with_reducible show slElem _ _ = some _); kernel_rfl) | ((with_reducible refine enters_mark ?_); kernel_rfl) | (with_reducible assumption) | ((with_reducible show List.all _ DV.one = true); rfl) | ((with_reducible show (_ : Nat) = _); rfl) | ((with_reducible show (_ == true) = true); first | (simp; done) | simpa using h) | ((with_reducible show (_ : Nat) ≤ _); exact Nat.le_of_ble_eq_true rfl) | ((with_reducible show (_ : Int) ≤ _); first | omega | decide) | ((with_reducible show (_ : Int) < _); first | omega | decide) | ((with_reducible show (_ : Nat) < _); omega) | ((with_reducible show (_ : Nat) ≤ _); omega)
        all_goals try first | ((with_reducible show isStr _ _ = true); kernel_rfl) | (with_reducible exact tnb h) | ((with_reducible show (_ == true) = true); exact hK) | ((with_reducible show _ = true); rw [hK]; rfl)
        refine Round.go (fun _ => k + 1) ⟨by omega, by omega, fun j h1 h2 => by
          by_cases e : j = k
          · subst e; exact h10
          · exact k3 j h1 (by omega)⟩ (by show t.size - (k + 1) < t.size - k; omega) (Weak.list [(0, some 0)] [] (by kernel_rfl) ?_ ?_)
        iterate 2 · repeat' (first | exact DW.int (wl_1 (Nat.le_trans k2 ht)) | exact DWl.same (rowC_all _) | exact DW.same _ rfl | exact DW.ref _ _ _ rfl | exact DW.arr _ _ _ rfl | exact OW.cells rfl rfl (DWl.same rfl) | refine OW.cells rfl rfl ?_ | refine DWl.cons ?_ ?_ | exact DWl.nil | exact DW.nilArr _ rfl | exact DW.nilLst _ | refine DW.clol ?_ ?_ | refine DW.aggl ?_ | refine DW.tupl ?_ | refine DW.int ?_ | refine DW.bool ?_ | refine DW.str ?_ | refine DW.arrE rfl ?_ | ((conv => whnf); first | refine And.intro ?_ ?_ | trivial))
    · have hek : k = t.size := by omega
      have hK : decide ((k : Int) < (t.size : Int)) = false := decide_eq_false (by omega)
      have hC : (bif decide ((k : Int) < (t.size : Int)) then byteAt t (Int.toNat (k : Int)) != 10 else false) = false := by rw [hK]; rfl
      have hC2 : (bif decide ((k : Int) < (t.size : Int)) then true else false) = false := by rw [hK]; rfl
      have hE : ((k : Int) == (t.size : Int)) = true := beq_iff_eq.2 (by omega)
      have eR : parseT t = ([], ((o.length + 1 : Nat) : Int), 20) := q_none hq0 ha (by intro j h1 h2; exact k3 j h1 (by omega))
      repeat' (first | with_reducible rfl | ((conv => whnf); first | refine And.intro ?_ ?_ | (intro h; first | with_reducible exact tf_no h | with_reducible exact ft_no h | exact Bool.noConfusion h | with_reducible exact h | (exfalso; exact bt_x hC h) | (exfalso; exact bt_x hE h) | (have ht : true = true := h; clear ht h) | skip) | ((with_reducible refine ECall.mark ?_); first | refine ECall.only ?_ (fun h => nomatch h) | refine ECall.only ?_ ?_) | ((with_reducible refine Drawn.mark ?_); first | refine Drawn.quiet (by kernel_rfl) ?_) | refine dloadE_map (ch0) ?_ ?_ | refine dcell_ok rfl ?_ | refine AppC.new ?_))
      all_goals try first | ((with_reducible show Option.isSome (slElem _ _) = true); kernel_rfl) | ((with_reducible show slElem _ _ = some _); kernel_rfl) | ((with_reducible refine enters_mark ?_); kernel_rfl) | (with_reducible assumption) | ((with_reducible show List.all _ DV.one = true); rfl) | ((with_reducible show (_ : Nat) = _); rfl) | ((with_reducible show (_ == true) = true); first | (simp; done) | simpa using h) | ((with_reducible show (_ : Nat) ≤ _); exact Nat.le_of_ble_eq_true rfl) | ((with_reducible show (_ : Int) ≤ _); first | omega | decide) | ((with_reducible show (_ : Int) < _); first | omega | decide) | ((with_reducible show (_ : Nat) < _); omega) | ((with_reducible show (_ : Nat) ≤ _); omega)
      all_goals try (first | ((with_reducible show (_ : Nat) < List.length [_, _]); exact lt2 _ _ (by decide)) | ((with_reducible show isStr _ _ = true); kernel_rfl) | (with_reducible exact tnb h) | ((with_reducible show Option.all _ _ = true); rfl) | (exact lp_1 hol1 hp; done) | (exact lp_2 hol1 hp; done) | (exact gp1 hdp; done) | (exact gx1 hdp h; done) | ((with_reducible show (_ + 1) * _ ≤ _); exact rc_b2 hol) | ((with_reducible show _ + 1 ≤ maxLen); exact rc_b3 hol) | (exact rc_b1 o; done) | (exact Int.ofNat_le.2 k1; done) | (exact of_decide_eq_true (beq_iff_eq.1 h); done) | ((with_reducible show (_ : Int) ≤ _); omega) | ((with_reducible show (_ : Int) < _); omega))
      all_goals (conv => whnf)
      all_goals exact Tells.of (congrArg pdV eR) (Tells.mk (DW.tupl (DWl.cons (DW.nilLst _) (DWl.cons (DW.same _ rfl) (DWl.cons (DW.same _ rfl) DWl.nil)))))
  · have hT : decide ((a : Int) < (t.size : Int)) = false := decide_eq_false (by omega)
    have eR : parseT t = (o, 0, 0) := q_end hq0 (by show a = t.size; omega)
    repeat' (first | with_reducible rfl | ((conv => whnf); first | refine And.intro ?_ ?_ | (intro h; first | with_reducible exact tf_no h | with_reducible exact ft_no h | exact Bool.noConfusion h | with_reducible exact h | (exfalso; exact bt_x hT h) | (have ht : true = true := h; clear ht h) | skip) | ((with_reducible refine ECall.mark ?_); first | refine ECall.only ?_ (fun h => nomatch h) | refine ECall.only ?_ ?_) | ((with_reducible refine Drawn.mark ?_); first | refine Drawn.quiet (by kernel_rfl) ?_) | refine dcell_ok rfl ?_ | refine AppC.new ?_))
    all_goals try first | ((with_reducible show Option.isSome (slElem _ _) = true); kernel_rfl) | ((with_reducible show slElem _ _ = some _); kernel_rfl) | ((with_reducible refine enters_mark ?_); kernel_rfl) | (with_reducible assumption) | ((with_reducible show List.all _ DV.one = true); rfl) | ((with_reducible show (_ : Nat) = _); rfl) | ((with_reducible show (_ == true) = true); first | (simp; done) | simpa using h) | ((with_reducible show (_ : Nat) ≤ _); exact Nat.le_of_ble_eq_true rfl) | ((with_reducible show (_ : Int) ≤ _); first | omega | decide) | ((with_reducible show (_ : Int) < _); first | omega | decide) | ((with_reducible show (_ : Nat) < _); omega) | ((with_reducible show (_ : Nat) ≤ _); omega)
    all_goals try ((with_reducible show isStr _ _ = true); kernel_rfl)
    all_goals (conv => whnf)
    all_goals exact Tells.of (congrArg pdV eR) (Tells.mk (DW.tupl (DWl.cons (DW.pubM (l := o) (f := chD) rfl rfl rfl rfl chRow (rowC_eq o)) (DWl.cons (DW.same _ rfl) (DWl.cons (DW.same _ rfl) DWl.nil)))))
end Go.Proofs.YtagfmppjlfhmeaaGreatDoor
