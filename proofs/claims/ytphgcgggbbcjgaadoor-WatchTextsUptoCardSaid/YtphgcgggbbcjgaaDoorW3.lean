/- What is written is read, by both in the same way: plain lists. -/
import Derived.Test.YtphgcgggbbcjgaaDoorW2
import Derived.Lib.SplitLaws
import Derived.Lib.ItoaMem
namespace Go.Proofs.YtphgcgggbbcjgaaDoor
open Go.RowKit Go.Dl

theorem dig_val {d : Nat} (h : d < 10) : (UInt8.ofNat (48 + d)).toNat = 48 + d := by
  rw [UInt8.toNat_ofNat']; omega
theorem dec_rec {u : Nat} (h : ¬ u < 10) : Lib.decDigits u = Lib.decDigits (u / 10) ++ [UInt8.ofNat (48 + u % 10)] := by
  rw [Lib.decDigits, dif_neg h]
theorem dec_head (u : Nat) : ∃ c r, Lib.decDigits u = c :: r ∧ 48 ≤ c.toNat ∧ c.toNat ≤ 57 ∧ (c.toNat = 48 → u = 0 ∧ r = []) := by
  induction u using Nat.strongRecOn with
  | ind u ih =>
    by_cases h : u < 10
    · refine ⟨_, _, Lib.decDigits_one h, ?_⟩
      rw [dig_val h]
      exact ⟨by omega, by omega, fun e => ⟨by omega, rfl⟩⟩
    · obtain ⟨c, r, e, h1, h2, h3⟩ := ih (u / 10) (by omega)
      refine ⟨c, r ++ [UInt8.ofNat (48 + u % 10)], by rw [dec_rec h, e]; rfl, h1, h2, fun e => ?_⟩
      have := (h3 e).1
      omega
theorem dec_mem (u : Nat) : ∀ c ∈ Lib.decDigits u, 48 ≤ c.toNat ∧ c.toNat ≤ 57 := by
  induction u using Nat.strongRecOn with
  | ind u ih =>
    intro c hc
    by_cases h : u < 10
    · rw [Lib.decDigits_one h, List.mem_singleton] at hc
      subst hc
      rw [dig_val h]; omega
    · rw [dec_rec h] at hc
      rcases List.mem_append.1 hc with hc | hc
      · exact ih (u / 10) (by omega) c hc
      · rw [List.mem_singleton] at hc
        subst hc
        rw [dig_val (by omega)]; omega
theorem parse_dec (u : Nat) (r : List UInt8) (hu : u ≤ 18446744073709551615) : Lib.parseUintM 18446744073709551615 0 (Lib.decDigits u ++ r) = Lib.parseUintM 18446744073709551615 u r := by
  induction u using Nat.strongRecOn generalizing r with
  | ind u ih =>
    by_cases h : u < 10
    · rw [Lib.decDigits_one h, List.singleton_append, Lib.parseUintM, dig_val h, if_pos (by omega), if_neg (by omega), if_neg (by omega)]
      congr 1; omega
    · rw [dec_rec h, List.append_assoc, ih (u / 10) (by omega) _ (by omega), List.singleton_append, Lib.parseUintM, dig_val (by omega), if_pos (by omega), if_neg (by omega), if_neg (by omega)]
      congr 1; omega
theorem badD_no {n d : Int} (h1 : 0 ≤ d) (h2 : d ≤ 9) (h3 : -9223372036854775808 ≤ 10 * n - d) : badD n d = false := by
  unfold badD
  simp only [Bool.cond_true_left, Bool.cond_false_right, Bool.or_eq_false_iff, Bool.and_eq_false_imp, decide_eq_false_iff_not, beq_iff_eq]
  refine ⟨⟨⟨by omega, by omega⟩, by omega⟩, fun e => by omega⟩
theorem loop_dec (u : Nat) (r : List UInt8) (hu : u ≤ 9223372036854775808) : numLoop 0 (Lib.decDigits u ++ r) = numLoop (-(u : Int)) r := by
  induction u using Nat.strongRecOn generalizing r with
  | ind u ih =>
    by_cases h : u < 10
    · rw [Lib.decDigits_one h, List.singleton_append, numLoop, dig_val h, if_neg (by rw [badD_no (by omega) (by omega) (by omega)]; decide)]
      congr 1; omega
    · rw [dec_rec h, List.append_assoc, ih (u / 10) (by omega) _ (by omega), List.singleton_append, numLoop, dig_val (by omega), if_neg (by rw [badD_no (by omega) (by omega) (by omega)]; decide)]
      congr 1; omega
theorem num_dec (u : Nat) (hu : u ≤ 9223372036854775807) : numO (Lib.decDigits u) = some (u : Int) := by
  obtain ⟨c, r, e, h1, h2, h3⟩ := dec_head u
  have ha : numAt (Lib.decDigits u) = 0 := by
    rw [e]; unfold numAt
    refine if_neg fun hc => ?_
    have : c.toNat = 45 := hc.2
    omega
  have hl := loop_dec u [] (by omega)
  rw [List.append_nil, numLoop] at hl
  unfold numO
  rw [ha, List.drop_zero, hl, if_neg]
  · show (if (0 : Nat) = 1 then _ else if -(u : Int) = _ then _ else _) = _
    rw [if_neg (by decide), if_neg (by omega), Int.neg_neg]
  · rw [e]
    rintro (hc | ⟨hc, hd⟩)
    · cases hc
    · have : c.toNat = 48 := hc
      rw [(h3 this).2] at hd
      exact absurd hd (by simp)
theorem num_neg (u : Nat) (h1 : 1 ≤ u) (hu : u ≤ 9223372036854775808) : numO (45 :: Lib.decDigits u) = some (-(u : Int)) := by
  obtain ⟨c, r, e, h1, h2, h3⟩ := dec_head u
  have ha : numAt (45 :: Lib.decDigits u) = 1 := by
    unfold numAt
    exact if_pos ⟨Nat.succ_pos _, rfl⟩
  have hl := loop_dec u [] (by omega)
  rw [List.append_nil, numLoop] at hl
  unfold numO
  rw [ha, show (45 :: Lib.decDigits u).drop 1 = Lib.decDigits u from rfl, hl, if_neg]
  · exact if_pos rfl
  · rw [e]
    rintro (hc | ⟨hc, hd⟩)
    · simp at hc
    · have : c.toNat = 48 := hc
      have := (h3 this).1
      omega
theorem num_itoa (n : Int) (h0 : -9223372036854775808 ≤ n) (h1 : n ≤ 9223372036854775807) : numO (Lib.itoa n) = some n := by
  by_cases h : n < 0
  · have e := Lib.itoa_neg n.natAbs (by omega)
    rw [show -((n.natAbs : Nat) : Int) = n by omega] at e
    rw [e, num_neg _ (by omega) (by omega)]
    congr 1; omega
  · have e := Lib.itoa_nonneg n.toNat
    rw [show ((n.toNat : Nat) : Int) = n by omega] at e
    rw [e, num_dec _ (by omega)]
    congr 1; omega
theorem of_itoa (n : Int) (h0 : -9223372036854775808 ≤ n) (h1 : n ≤ 9223372036854775807) : numOf (bs (Lib.itoa n)) = some n := by
  unfold numOf
  rw [show (bs (Lib.itoa n)).data.toList = Lib.itoa n from rfl]
  by_cases h : n < 0
  · have e := Lib.itoa_neg n.natAbs (by omega)
    rw [show -((n.natAbs : Nat) : Int) = n by omega] at e
    obtain ⟨c, r, e2, _⟩ := dec_head n.natAbs
    have hp := parse_dec n.natAbs [] (by omega)
    rw [List.append_nil] at hp
    have hu : Lib.parseUintB 64 (Lib.decDigits n.natAbs) = .ok n.natAbs := by
      unfold Lib.parseUintB
      rw [if_neg (by rw [e2]; exact List.cons_ne_nil _ _)]
      exact hp
    have : Lib.parseIntB 64 (Lib.itoa n) = .ok n := by
      rw [e]
      unfold Lib.parseIntB
      show (match Lib.parseUintB 64 (if (45 : UInt8).toNat = 43 ∨ (45 : UInt8).toNat = 45 then Lib.decDigits n.natAbs else 45 :: Lib.decDigits n.natAbs) with
        | .syntax => Lib.NumEnd.syntax
        | .range => .range
        | .ok u => if ¬ (45 : UInt8).toNat = 45 ∧ 2 ^ (64 - 1) ≤ u then .range else if (45 : UInt8).toNat = 45 ∧ 2 ^ (64 - 1) < u then .range else .ok (if (45 : UInt8).toNat = 45 then -(u : Int) else u)) = _
      rw [if_pos (by decide), hu]
      show (if _ then Lib.NumEnd.range else if _ then Lib.NumEnd.range else Lib.NumEnd.ok (if (45 : UInt8).toNat = 45 then -((n.natAbs : Nat) : Int) else n.natAbs)) = _
      rw [if_neg (fun hc => hc.1 rfl), if_neg (fun hc => by omega), if_pos (show (45 : UInt8).toNat = 45 from rfl)]
      congr 1; omega
    rw [this]
  · have e := Lib.itoa_nonneg n.toNat
    rw [show ((n.toNat : Nat) : Int) = n by omega] at e
    obtain ⟨c, r, e2, g1, g2, _⟩ := dec_head n.toNat
    have hp := parse_dec n.toNat [] (by omega)
    rw [List.append_nil] at hp
    have hu : Lib.parseUintB 64 (Lib.decDigits n.toNat) = .ok n.toNat := by
      unfold Lib.parseUintB
      rw [if_neg (by rw [e2]; exact List.cons_ne_nil _ _)]
      exact hp
    have : Lib.parseIntB 64 (Lib.itoa n) = .ok n := by
      rw [e]
      rw [e2] at hu ⊢
      unfold Lib.parseIntB
      show (match Lib.parseUintB 64 (if c.toNat = 43 ∨ c.toNat = 45 then r else c :: r) with
        | .syntax => Lib.NumEnd.syntax
        | .range => .range
        | .ok u => if ¬ c.toNat = 45 ∧ 2 ^ (64 - 1) ≤ u then .range else if c.toNat = 45 ∧ 2 ^ (64 - 1) < u then .range else .ok (if c.toNat = 45 then -(u : Int) else u)) = _
      rw [if_neg (by omega), hu]
      show (if _ then Lib.NumEnd.range else if _ then Lib.NumEnd.range else Lib.NumEnd.ok (if c.toNat = 45 then -((n.toNat : Nat) : Int) else n.toNat)) = _
      rw [if_neg (fun hc => by omega), if_neg (fun hc => by omega), if_neg (by omega)]
      congr 1; omega
    rw [this]
theorem itoa_plain (n : Int) : (32 : UInt8) ∉ Lib.itoa n := by
  intro hc
  have hd : ∀ u : Nat, (32 : UInt8) ∉ Lib.decDigits u := fun u h => absurd (dec_mem u _ h).1 (by decide)
  unfold Lib.itoa at hc
  split at hc
  · rcases List.mem_cons.1 hc with h | h
    · exact absurd h (by decide)
    · exact hd _ h
  · exact hd _ hc
def joinW : List (List UInt8) → List UInt8
  | [] => []
  | [w] => w
  | w :: x :: t => w ++ 32 :: joinW (x :: t)
def Plain (ws : List (List UInt8)) : Prop := ∀ w ∈ ws, (32 : UInt8) ∉ w
theorem byte_miss {w : List UInt8} (h : (32 : UInt8) ∉ w) : Lib.indexByte w 32 = -1 := by
  induction w with
  | nil => rfl
  | cons b l ih =>
    have hb : ¬ (b == 32) = true := fun e => h (by rw [eq_of_beq e]; exact List.mem_cons_self)
    rw [Lib.indexByte, if_neg hb, ih (fun e => h (List.mem_cons_of_mem _ e))]; rfl
theorem byte_hit {w : List UInt8} (r : List UInt8) (h : (32 : UInt8) ∉ w) : Lib.indexByte (w ++ 32 :: r) 32 = w.length := by
  induction w with
  | nil => rfl
  | cons b l ih =>
    have hb : ¬ (b == 32) = true := fun e => h (by rw [eq_of_beq e]; exact List.mem_cons_self)
    rw [List.cons_append, Lib.indexByte, if_neg hb, ih (fun e => h (List.mem_cons_of_mem _ e)), if_neg (by rw [beq_iff_eq]; omega)]
    rw [List.length_cons]; omega
theorem splitK_miss {w : List UInt8} (k : Nat) (h : (32 : UInt8) ∉ w) : Lib.splitK [32] 0 k w = [w] := by
  cases k with
  | zero => rfl
  | succ k => rw [Lib.splitK, Lib.index_one, byte_miss h, if_pos (by decide)]
theorem splitK_hit {w : List UInt8} (k : Nat) (r : List UInt8) (h : (32 : UInt8) ∉ w) : Lib.splitK [32] 0 (k + 1) (w ++ 32 :: r) = w :: Lib.splitK [32] 0 k r := by
  rw [Lib.splitK, Lib.index_one, byte_hit r h, if_neg (by rw [beq_iff_eq]; omega)]
  congr 1
  · rw [Int.toNat_natCast, Nat.add_zero, List.take_left']; rfl
  · rw [Int.toNat_natCast, show w.length + [(32 : UInt8)].length = w.length + 1 from rfl]
    rw [show (w ++ 32 :: r) = (w ++ [32]) ++ r by simp, List.drop_left' (by simp)]
theorem split_join : ∀ (ws : List (List UInt8)), ws ≠ [] → Plain ws → Lib.splitK [32] 0 (Lib.count (joinW ws) [32]) (joinW ws) = ws
  | [], h, _ => absurd rfl h
  | [w], _, hp => splitK_miss _ (hp w List.mem_cons_self)
  | w :: x :: t, _, hp => by
    have hw := hp w List.mem_cons_self
    rw [joinW, Lib.count_one, List.count_append, List.count_cons_self, List.count_eq_zero.2 hw, Nat.zero_add, ← Lib.count_one, splitK_hit _ _ hw, split_join (x :: t) (List.cons_ne_nil _ _) (fun y hy => hp y (List.mem_cons_of_mem _ hy))]
theorem bs_data (x : ByteArray) : bs x.data.toList = x := by
  obtain ⟨d⟩ := x
  show ByteArray.mk d.toList.toArray = _
  rw [Array.toArray_toList]
theorem words_join {s : ByteArray} {ws : List (List UInt8)} (h : s.data.toList = joinW ws) (hne : ws ≠ []) (hp : Plain ws) : wordsB s = ws.map bs := by
  have e : (wordsB s).map (·.data.toList) = ws := by
    rw [wordsB, Lib.splitB_data]
    show Lib.splitK [32] 0 (Lib.count s.data.toList [32]) s.data.toList = ws
    rw [h, split_join ws hne hp]
  rw [← e, List.map_map]
  conv => lhs; rw [← List.map_id (wordsB s)]
  exact List.map_congr_left fun x _ => (bs_data x).symm
theorem doc_run {s : ByteArray} {p w r : List UInt8} {L : List Int} (h : s.data.toList = p ++ w ++ r) (hw : (32 : UInt8) ∉ w) (hd : docS s p.length = (p.length, L)) : ∀ k, k ≤ w.length → docS s (p.length + k) = (p.length, L)
  | 0, _ => hd
  | k + 1, hk => by
    have hs : s.size = s.data.toList.length := Array.length_toList.symm
    have h1 : p.length + k < s.size := by rw [hs, h]; simp; omega
    have h2 : byteAt s (p.length + k) ≠ 32 := by
      intro e
      have e2 : ((s.data.toList.getD (p.length + k) 0).toNat : Int) = 32 := e
      rw [h, List.append_assoc, List.getD_eq_getElem?_getD, List.getElem?_append_right (by omega), Nat.add_sub_cancel_left, List.getElem?_append_left (by omega), List.getElem?_eq_getElem (by omega)] at e2
      refine hw ?_
      rw [show (32 : UInt8) = w[k] from ?_]
      · exact List.getElem_mem _
      · have e3 : (w[k]).toNat = 32 := by
          have e4 : ((w[k].toNat : Nat) : Int) = 32 := by simpa using e2
          omega
        exact (UInt8.toNat_inj.1 e3).symm
    rw [show p.length + (k + 1) = (p.length + k) + 1 from rfl, docS, if_pos ⟨h1, h2⟩]
    exact doc_run h hw hd k (by omega)
theorem cut_word {s : ByteArray} {p w r : List UInt8} (h : s.data.toList = p ++ w ++ r) : (s.extract p.length (p.length + w.length)).data.toList = w := by
  rw [Lib.extract_data, h, List.append_assoc, List.drop_left' rfl, Nat.add_sub_cancel_left, List.take_left' rfl]
theorem doc_word {s : ByteArray} {p w r : List UInt8} {L : List Int} (h : s.data.toList = p ++ w ++ r) (hw : (32 : UInt8) ∉ w) (hd : docS s p.length = (p.length, L)) (hr : r = [] ∨ ∃ t, r = 32 :: t) :
    docS s (p.length + w.length + 1) = (p.length + w.length + 1, pushO L (numO w)) := by
  have hrun := doc_run h hw hd w.length (Nat.le_refl _)
  have hs : s.size = s.data.toList.length := Array.length_toList.symm
  have hstop : ¬ (p.length + w.length < s.size ∧ byteAt s (p.length + w.length) ≠ 32) := by
    rintro ⟨h1, h2⟩
    rcases hr with rfl | ⟨t, rfl⟩
    · rw [hs, h] at h1; simp at h1
    · refine h2 ?_
      show ((s.data.toList.getD (p.length + w.length) 0).toNat : Int) = 32
      rw [h, List.getD_eq_getElem?_getD, List.getElem?_append_right (by simp), List.length_append, Nat.sub_self]
      rfl
  rw [docS, if_neg hstop, hrun]
  show (p.length + w.length + 1, pushO L (numO (s.extract p.length (p.length + w.length)).data.toList)) = _
  rw [cut_word h]
theorem doc_join : ∀ (ws : List (List UInt8)) (s : ByteArray) (p : List UInt8) (L : List Int), ws ≠ [] → Plain ws → s.data.toList = p ++ joinW ws → docS s p.length = (p.length, L) → (docS s (s.size + 1)).2 = L ++ ws.filterMap numO
  | [], _, _, _, h, _, _, _ => absurd rfl h
  | [w], s, p, L, _, hp, h, hd => by
    have hs : s.size = s.data.toList.length := Array.length_toList.symm
    have := doc_word (r := []) (by rw [List.append_nil]; exact h) (hp w List.mem_cons_self) hd (Or.inl rfl)
    rw [hs, h, List.length_append, joinW, this]
    cases e : numO w with
    | none => simp [pushO, e]
    | some v => simp [pushO, e]
  | w :: x :: t, s, p, L, _, hp, h, hd => by
    have h' : s.data.toList = p ++ w ++ 32 :: joinW (x :: t) := by rw [h, joinW, List.append_assoc]
    have hw := doc_word h' (hp w List.mem_cons_self) hd (Or.inr ⟨_, rfl⟩)
    have := doc_join (x :: t) s (p ++ w ++ [32]) (pushO L (numO w)) (List.cons_ne_nil _ _) (fun y hy => hp y (List.mem_cons_of_mem _ hy)) (by rw [h']; simp) (by rw [List.length_append, List.length_append]; exact hw)
    rw [this]
    generalize x :: t = q
    rw [List.filterMap_cons]
    cases e : numO w with
    | none => rfl
    | some v => simp [pushO]
def cAbove : List UInt8 := [97, 98, 111, 118, 101]
def cBelow : List UInt8 := [98, 101, 108, 111, 119]
def cOutside : List UInt8 := [111, 117, 116, 115, 105, 100, 101]
def cChange : List UInt8 := [99, 104, 97, 110, 103, 101]
def cClear : List UInt8 := [99, 108, 101, 97, 114]
def cHold : List UInt8 := [104, 111, 108, 100]
theorem no_above : numO cAbove = none := by decide +kernel
theorem no_below : numO cBelow = none := by decide +kernel
theorem no_outside : numO cOutside = none := by decide +kernel
theorem no_change : numO cChange = none := by decide +kernel
theorem no_clear : numO cClear = none := by decide +kernel
theorem no_hold : numO cHold = none := by decide +kernel
theorem of_above : numOf (bs cAbove) = none := by decide +kernel
theorem of_below : numOf (bs cBelow) = none := by decide +kernel
theorem of_outside : numOf (bs cOutside) = none := by decide +kernel
theorem of_change : numOf (bs cChange) = none := by decide +kernel
theorem of_clear : numOf (bs cClear) = none := by decide +kernel
theorem of_hold : numOf (bs cHold) = none := by decide +kernel
theorem kw_above : kindW (bs cAbove) = 1 := by rfl
theorem kw_below : kindW (bs cBelow) = 2 := by rfl
theorem kw_outside : kindW (bs cOutside) = 3 := by rfl
theorem kw_change : kindW (bs cChange) = 4 := by rfl
theorem app_data (x y : ByteArray) : (x ++ y).data.toList = x.data.toList ++ y.data.toList := by
  rw [ByteArray.data_append, Array.toList_append]
theorem num_data (n : Int) : (numB n).data.toList = Lib.itoa n := rfl
def wsA (a : Al) : List (List UInt8) :=
  if a.kind = 1 then [cAbove, Lib.itoa a.high, cClear, Lib.itoa a.low, cHold, Lib.itoa a.hold]
  else if a.kind = 2 then [cBelow, Lib.itoa a.low, cClear, Lib.itoa a.high, cHold, Lib.itoa a.hold]
  else if a.kind = 3 then [cOutside, Lib.itoa a.low, Lib.itoa a.high, cHold, Lib.itoa a.hold]
  else [cChange, Lib.itoa a.high, cClear, Lib.itoa a.low, cHold, Lib.itoa a.hold]
def numsA (a : Al) : List Int := if a.kind = 1 ∨ a.kind = 4 then [a.high, a.low, a.hold] else [a.low, a.high, a.hold]
theorem kinds {a : Al} (h : fitA a = true) : a.kind = 1 ∨ a.kind = 2 ∨ a.kind = 3 ∨ a.kind = 4 := by have := fit_iff.1 h; omega
theorem ws_ne (a : Al) : wsA a ≠ [] := by
  unfold wsA
  split
  · exact List.cons_ne_nil _ _
  · split
    · exact List.cons_ne_nil _ _
    · split
      · exact List.cons_ne_nil _ _
      · exact List.cons_ne_nil _ _
theorem plain_six {a b c d e f : List UInt8} (h1 : (32 : UInt8) ∉ a) (h2 : (32 : UInt8) ∉ b) (h3 : (32 : UInt8) ∉ c) (h4 : (32 : UInt8) ∉ d) (h5 : (32 : UInt8) ∉ e) (h6 : (32 : UInt8) ∉ f) : Plain [a, b, c, d, e, f] := by
  intro w hw
  simp only [List.mem_cons, List.not_mem_nil, or_false] at hw
  rcases hw with rfl | rfl | rfl | rfl | rfl | rfl <;> assumption
theorem plain_five {a b c d e : List UInt8} (h1 : (32 : UInt8) ∉ a) (h2 : (32 : UInt8) ∉ b) (h3 : (32 : UInt8) ∉ c) (h4 : (32 : UInt8) ∉ d) (h5 : (32 : UInt8) ∉ e) : Plain [a, b, c, d, e] := by
  intro w hw
  simp only [List.mem_cons, List.not_mem_nil, or_false] at hw
  rcases hw with rfl | rfl | rfl | rfl | rfl <;> assumption
theorem ws_plain (a : Al) : Plain (wsA a) := by
  have p1 : (32 : UInt8) ∉ cAbove := by decide
  have p2 : (32 : UInt8) ∉ cBelow := by decide
  have p3 : (32 : UInt8) ∉ cOutside := by decide
  have p4 : (32 : UInt8) ∉ cChange := by decide
  have p5 : (32 : UInt8) ∉ cClear := by decide
  have p6 : (32 : UInt8) ∉ cHold := by decide
  unfold wsA
  split
  · exact plain_six p1 (itoa_plain _) p5 (itoa_plain _) p6 (itoa_plain _)
  · split
    · exact plain_six p2 (itoa_plain _) p5 (itoa_plain _) p6 (itoa_plain _)
    · split
      · exact plain_five p3 (itoa_plain _) (itoa_plain _) p6 (itoa_plain _)
      · exact plain_six p4 (itoa_plain _) p5 (itoa_plain _) p6 (itoa_plain _)
theorem text_data {a : Al} (h : fitA a = true) : (textT a).data.toList = joinW (wsA a) := by
  unfold textT wsA
  rw [if_pos h]
  rcases kinds h with e | e | e | e
  · rw [e, if_pos (by decide), if_pos rfl]
    unfold text1
    simp only [app_data, num_data]
    simp [joinW, wAbove, wClear, wHold, cAbove, cClear, cHold]
  · rw [e, if_neg (by decide), if_pos (by decide), if_neg (by decide), if_pos rfl]
    unfold text2
    simp only [app_data, num_data]
    simp [joinW, wBelow, wClear, wHold, cBelow, cClear, cHold]
  · rw [e, if_neg (by decide), if_neg (by decide), if_pos (by decide), if_neg (by decide), if_neg (by decide), if_pos rfl]
    unfold text3
    simp only [app_data, num_data]
    simp [joinW, wOutside, spaceB, wHold, cOutside, cHold]
  · rw [e, if_neg (by decide), if_neg (by decide), if_neg (by decide), if_neg (by decide), if_neg (by decide), if_neg (by decide)]
    unfold text4
    simp only [app_data, num_data]
    simp [joinW, wChange, wClear, wHold, cChange, cClear, cHold]
theorem ranges {a : Al} (h : fitA a = true) : (-9223372036854775808 ≤ a.low ∧ a.low ≤ 9223372036854775807) ∧ (-9223372036854775808 ≤ a.high ∧ a.high ≤ 9223372036854775807) ∧ (-9223372036854775808 ≤ a.hold ∧ a.hold ≤ 9223372036854775807) := by
  have h' : (!fitA a) = false := by rw [h]; rfl
  exact ⟨fit_low h', fit_high h', fit_hold h'⟩
theorem numsO_ws {a : Al} (h : fitA a = true) : (wsA a).filterMap numO = numsA a := by
  obtain ⟨hl, hu, ho⟩ := ranges h
  have e1 := num_itoa a.low hl.1 hl.2
  have e2 := num_itoa a.high hu.1 hu.2
  have e3 := num_itoa a.hold ho.1 ho.2
  unfold wsA numsA
  rcases kinds h with e | e | e | e
  · rw [e, if_pos rfl, if_pos (by decide)]
    simp only [List.filterMap_cons, List.filterMap_nil, no_above, no_clear, no_hold, e1, e2, e3]
  · rw [e, if_neg (by decide), if_pos rfl, if_neg (by decide)]
    simp only [List.filterMap_cons, List.filterMap_nil, no_below, no_clear, no_hold, e1, e2, e3]
  · rw [e, if_neg (by decide), if_neg (by decide), if_pos rfl, if_neg (by decide)]
    simp only [List.filterMap_cons, List.filterMap_nil, no_outside, no_hold, e1, e2, e3]
  · rw [e, if_neg (by decide), if_neg (by decide), if_neg (by decide), if_pos (by decide)]
    simp only [List.filterMap_cons, List.filterMap_nil, no_change, no_clear, no_hold, e1, e2, e3]
theorem numsOf_ws {a : Al} (h : fitA a = true) : ((wsA a).map bs).filterMap numOf = numsA a := by
  obtain ⟨hl, hu, ho⟩ := ranges h
  have e1 := of_itoa a.low hl.1 hl.2
  have e2 := of_itoa a.high hu.1 hu.2
  have e3 := of_itoa a.hold ho.1 ho.2
  unfold wsA numsA
  rcases kinds h with e | e | e | e
  · rw [e, if_pos rfl, if_pos (by decide)]
    simp only [List.map_cons, List.map_nil, List.filterMap_cons, List.filterMap_nil, of_above, of_clear, of_hold, e1, e2, e3]
  · rw [e, if_neg (by decide), if_pos rfl, if_neg (by decide)]
    simp only [List.map_cons, List.map_nil, List.filterMap_cons, List.filterMap_nil, of_below, of_clear, of_hold, e1, e2, e3]
  · rw [e, if_neg (by decide), if_neg (by decide), if_pos rfl, if_neg (by decide)]
    simp only [List.map_cons, List.map_nil, List.filterMap_cons, List.filterMap_nil, of_outside, of_hold, e1, e2, e3]
  · rw [e, if_neg (by decide), if_neg (by decide), if_neg (by decide), if_pos (by decide)]
    simp only [List.map_cons, List.map_nil, List.filterMap_cons, List.filterMap_nil, of_change, of_clear, of_hold, e1, e2, e3]
theorem kind_ws {a : Al} (h : fitA a = true) : kindW (((wsA a).map bs).getD 0 ByteArray.empty) = a.kind := by
  unfold wsA
  rcases kinds h with e | e | e | e
  · rw [e, if_pos rfl]; exact kw_above
  · rw [e, if_neg (by decide), if_pos rfl]; exact kw_below
  · rw [e, if_neg (by decide), if_neg (by decide), if_pos rfl]; exact kw_outside
  · rw [e, if_neg (by decide), if_neg (by decide), if_neg (by decide)]; exact kw_change
theorem made_ws {a : Al} (h : fitA a = true) : madeA a.kind (numsA a) = a := by
  obtain ⟨k, l, u, o⟩ := a
  unfold madeA numsA
  rcases kinds h with e | e | e | e <;> (simp only at e; subst e; rfl)
theorem nums_three (a : Al) : (numsA a).length = 3 := by
  unfold numsA
  split <;> rfl
theorem kindK_pos {s : ByteArray} {k : Nat} (h : 0 < k) : kindK s k = kindW ((wordsB s).getD 0 ByteArray.empty) := by
  unfold kindK
  exact if_neg (by omega)
theorem nums_all (s : ByteArray) : numsK s (wordsB s).length = (wordsB s).filterMap numOf := by
  unfold numsK
  rw [List.take_of_length_le (Nat.le_refl _)]
/-- What is written is read. -/
theorem P1 {a : Al} (h : fitA a = true) : parseT (textT a) = (a, 0) := by
  have hw := words_join (text_data h) (ws_ne a) (ws_plain a)
  have hk : kindK (textT a) (wordsB (textT a)).length = a.kind := by
    rw [kindK_pos (by rw [hw, List.length_map]; exact List.length_pos_iff.2 (ws_ne a)), hw]
    exact kind_ws h
  have hn : numsK (textT a) (wordsB (textT a)).length = numsA a := by rw [nums_all, hw]; exact numsOf_ws h
  rw [parseT, hk, hn, parseK, if_pos (nums_three a), made_ws h, if_pos rfl]
theorem P2 (s : ByteArray) : (∃ x : Al, fitA x = true ∧ textT x = s) ∨ parseT s = (al0, 20) := by
  unfold parseT parseK
  by_cases h3 : (numsK s (wordsB s).length).length = 3
  · rw [if_pos h3]
    by_cases ht : textT (madeA (kindK s (wordsB s).length) (numsK s (wordsB s).length)) = s
    · rw [if_pos ht]
      by_cases hf : fitA (madeA (kindK s (wordsB s).length) (numsK s (wordsB s).length)) = true
      · exact Or.inl ⟨_, hf, ht⟩
      · exfalso
        have e : s = ByteArray.empty := by
          rw [← ht]; unfold textT; rw [if_neg hf]
        subst e
        have : (wordsB ByteArray.empty).length = 1 := by decide +kernel
        have h1 := nums_len ByteArray.empty (wordsB ByteArray.empty).length
        omega
    · rw [if_neg ht]; exact Or.inr rfl
  · rw [if_neg h3]; exact Or.inr rfl
theorem text_inj {a b : Al} (ha : fitA a = true) (hb : fitA b = true) (h : textT a = textT b) : a = b := by
  have h1 := P1 ha
  rw [h, P1 hb] at h1
  exact (congrArg Prod.fst h1).symm
theorem hit_fit {s : ByteArray} {x y z k : Int} {a : Al} (h : hitK s x y z k = some a) : fitA a = true ∧ textT a = s := by
  unfold hitK at h
  split at h
  · rename_i h1
    cases h
    simp only [Bool.cond_false_right, Bool.and_eq_true] at h1
    exact ⟨h1.1, ba_eq.1 h1.2⟩
  · split at h
    · rename_i h1
      cases h
      simp only [Bool.cond_false_right, Bool.and_eq_true] at h1
      exact ⟨h1.1, ba_eq.1 h1.2⟩
    · cases h
theorem docF_fit {s : ByteArray} {x y z : Int} {a : Al} (h : docF s x y z = some a) : fitA a = true ∧ textT a = s := by
  unfold docF at h
  obtain ⟨k, _, hk⟩ := List.exists_of_findSome?_eq_some h
  exact hit_fit hk
theorem D2 (s : ByteArray) : (∃ x : Al, fitA x = true ∧ textT x = s) ∨ docT s = (al0, 20) := by
  unfold docT
  by_cases h3 : (docS s (s.size + 1)).2.length = 3
  · rw [if_pos h3]
    cases e : docF s ((docS s (s.size + 1)).2.getD 0 0) ((docS s (s.size + 1)).2.getD 1 0) ((docS s (s.size + 1)).2.getD 2 0) with
    | none => exact Or.inr rfl
    | some a => exact Or.inl ⟨a, docF_fit e⟩
  · rw [if_neg h3]; exact Or.inr rfl
theorem hit_own {a : Al} (h : fitA a = true) : (hitK (textT a) ((numsA a).getD 0 0) ((numsA a).getD 1 0) ((numsA a).getD 2 0) a.kind).isSome = true := by
  have hb : (textT a == textT a) = true := ba_eq.2 rfl
  have key : (a = ⟨a.kind, (numsA a).getD 0 0, (numsA a).getD 1 0, (numsA a).getD 2 0⟩ ∨ a = ⟨a.kind, (numsA a).getD 1 0, (numsA a).getD 0 0, (numsA a).getD 2 0⟩) := by
    unfold numsA
    split
    · exact Or.inr rfl
    · exact Or.inl rfl
  unfold hitK
  split
  · rfl
  · rename_i h1
    split
    · rfl
    · rename_i h2
      exfalso
      rcases key with e | e
      · rw [← e, h, hb] at h1; exact h1 rfl
      · rw [← e, h, hb] at h2; exact h2 rfl
theorem D1 {a : Al} (h : fitA a = true) : docT (textT a) = (a, 0) := by
  have hn : (docS (textT a) ((textT a).size + 1)).2 = numsA a := by
    have := doc_join (wsA a) (textT a) [] [] (ws_ne a) (ws_plain a) (by rw [text_data h]; rfl) rfl
    rw [this, List.nil_append]
    exact numsO_ws h
  have h1 := hit_own h
  have hm : a.kind ∈ ([1, 2, 3, 4] : List Int) := by
    rcases kinds h with e | e | e | e <;> rw [e] <;> decide
  have h2 : (docF (textT a) ((numsA a).getD 0 0) ((numsA a).getD 1 0) ((numsA a).getD 2 0)).isSome = true := by
    unfold docF
    exact List.findSome?_isSome_iff.2 ⟨a.kind, hm, h1⟩
  obtain ⟨b, hb⟩ := Option.isSome_iff_exists.1 h2
  obtain ⟨hb1, hb2⟩ := docF_fit hb
  have : b = a := text_inj hb1 h hb2
  subst this
  rw [docT, hn, if_pos (nums_three b), hb]
  rfl
/-- Both read the same. -/
theorem parse_same (s : ByteArray) : parseT s = docT s := by
  rcases P2 s with ⟨x, hx, rfl⟩ | h1
  · rw [P1 hx, D1 hx]
  · rcases D2 s with ⟨x, hx, rfl⟩ | h2
    · rw [P1 hx, D1 hx]
    · rw [h1, h2]
end Go.Proofs.YtphgcgggbbcjgaaDoor
