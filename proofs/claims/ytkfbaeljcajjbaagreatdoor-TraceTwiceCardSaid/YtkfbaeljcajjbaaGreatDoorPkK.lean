/- What is written is read by the document, too; both read the same. -/
import Derived.Test.YtkfbaeljcajjbaaGreatDoorPkE
import Derived.Test.YtkfbaeljcajjbaaGreatDoorPkJ0
import Derived.Test.YtkfbaeljcajjbaaGreatDoorPkJ1
import Derived.Test.YtkfbaeljcajjbaaGreatDoorPkJ2
import Derived.Test.YtkfbaeljcajjbaaGreatDoorPkJ3
import Derived.Test.YtkfbaeljcajjbaaGreatDoorPkJ4
import Derived.Test.YtkfbaeljcajjbaaGreatDoorPkJ5
import Derived.Test.YtkfbaeljcajjbaaGreatDoorPkJ6

namespace Go.Proofs.YtkfbaeljcajjbaaGreatDoor
open Go.RowKit Go.Dl
theorem docW_run {s : ByteArray} {p w r : List UInt8} {L : List ByteArray} (h : s.data.toList = p ++ w ++ r) (hw : (32 : UInt8) ∉ w) (hd : docW s p.length = (p.length, L)) : ∀ k, k ≤ w.length → docW s (p.length + k) = (p.length, L)
  | 0, _ => hd
  | k + 1, hk => by
    have hs : s.size = s.data.toList.length := Array.length_toList.symm
    have h1 : p.length + k < s.size := by rw [hs, h]; simp; omega
    have h2 : byteAt s (p.length + k) ≠ 32 := by
      intro e
      have e2 : ((s.data.toList.getD (p.length + k) 0).toNat : Int) = 32 := e
      rw [h, List.append_assoc, List.getD_eq_getElem?_getD, List.getElem?_append_right (by omega), Nat.add_sub_cancel_left, List.getElem?_append_left (by omega), List.getElem?_eq_getElem (by omega)] at e2
      refine hw ?_
      rw [show (32 : UInt8) = w[k] from ?_]
      · exact List.getElem_mem _
      · have e3 : (w[k]).toNat = 32 := by
          have e4 : ((w[k].toNat : Nat) : Int) = 32 := by simpa using e2
          omega
        exact (UInt8.toNat_inj.1 e3).symm
    rw [show p.length + (k + 1) = (p.length + k) + 1 from rfl, docW, if_neg (by omega)]
    exact docW_run h hw hd k (by omega)
theorem cut_word {s : ByteArray} {p w r : List UInt8} (h : s.data.toList = p ++ w ++ r) : s.extract p.length (p.length + w.length) = bs w := by
  rw [← bs_data (s.extract p.length (p.length + w.length)), Lib.extract_data, h, List.append_assoc, List.drop_left' rfl, Nat.add_sub_cancel_left, List.take_left' rfl]
theorem docW_word {s : ByteArray} {p w r : List UInt8} {L : List ByteArray} (h : s.data.toList = p ++ w ++ r) (hw : (32 : UInt8) ∉ w) (hd : docW s p.length = (p.length, L)) (hr : r = [] ∨ ∃ t, r = 32 :: t) :
    docW s (p.length + w.length + 1) = (p.length + w.length + 1, L ++ [bs w]) := by
  have hrun := docW_run h hw hd w.length (Nat.le_refl _)
  have hs : s.size = s.data.toList.length := Array.length_toList.symm
  have hstop : p.length + w.length = s.size ∨ byteAt s (p.length + w.length) = 32 := by
    rcases hr with rfl | ⟨t, rfl⟩
    · left; rw [hs, h]; simp
    · right
      show ((s.data.toList.getD (p.length + w.length) 0).toNat : Int) = 32
      rw [h, List.getD_eq_getElem?_getD, List.getElem?_append_right (by simp), List.length_append, Nat.sub_self]
      rfl
  rw [docW, if_pos hstop, hrun]
  show (p.length + w.length + 1, L ++ [s.extract p.length (p.length + w.length)]) = _
  rw [cut_word h]
theorem docW_join : ∀ (ws : List (List UInt8)) (s : ByteArray) (p : List UInt8) (L : List ByteArray), ws ≠ [] → Plain ws → s.data.toList = p ++ joinW ws → docW s p.length = (p.length, L) → docWs s = L ++ ws.map bs
  | [], _, _, _, h, _, _, _ => absurd rfl h
  | [w], s, p, L, _, hp, h, hd => by
    have hs : s.size = s.data.toList.length := Array.length_toList.symm
    have := docW_word (r := []) (by rw [List.append_nil]; exact h) (hp w List.mem_cons_self) hd (Or.inl rfl)
    unfold docWs
    rw [hs, h, List.length_append, joinW, this]
    rfl
  | w :: x :: t, s, p, L, _, hp, h, hd => by
    have h' : s.data.toList = p ++ w ++ 32 :: joinW (x :: t) := by rw [h, joinW, List.append_assoc]
    have hw := docW_word h' (hp w List.mem_cons_self) hd (Or.inr ⟨_, rfl⟩)
    have := docW_join (x :: t) s (p ++ w ++ [32]) (L ++ [bs w]) (List.cons_ne_nil _ _) (fun y hy => hp y (List.mem_cons_of_mem _ hy)) (by rw [h']; simp) (by rw [List.length_append, List.length_append]; exact hw)
    rw [this, List.append_assoc]
    rfl
theorem doc_line {m : Mo} (h : FitM m) : docWs (lineF m) = wsT m := by
  have := docW_join ((wsT m).map (·.data.toList)) (lineF m) [] [] (by simp [wsT]) (fun w hw => by
    obtain ⟨x, hx, rfl⟩ := List.mem_map.1 hw
    exact ws_plain h x hx) (by rw [line_data m]; rfl) rfl
  rw [this, List.nil_append, map_bs]
/-! ### Numbers -/
def digL : Int → List UInt8 → Int
  | x, [] => x
  | x, c :: r => digL (if isDig (c.toNat : Int) = true then addD x (c.toNat : Int) else x) r
theorem digL_app (x : Int) (l r : List UInt8) : digL x (l ++ r) = digL (digL x l) r := by
  induction l generalizing x with
  | nil => rfl
  | cons c l ih => exact ih _
theorem digK_L (s : ByteArray) : ∀ k, k ≤ s.size → digK s k = digL 0 (s.data.toList.take k)
  | 0, _ => by rw [List.take_zero]; rfl
  | k + 1, hk => by
    have hs : s.data.toList.length = s.size := Array.length_toList
    rw [digK, digK_L s k (by omega), take_succ (d := 0) (by omega), digL_app]
    rfl
theorem wrapU {x : Int} (h : 0 ≤ x) (h2 : x < 18446744073709551616) : IntKind.u64.wrap x = x := by
  simp [IntKind.wrap, IntKind.bits, IntKind.signed]; omega
theorem wrapB {x : Int} (h : 0 ≤ x) (h2 : x < 256) : IntKind.u8.wrap x = x := by
  simp [IntKind.wrap, IntKind.bits, IntKind.signed]; omega
theorem addD_ok {x d : Int} (h : 0 ≤ x) (h1 : 0 ≤ d ∧ d ≤ 9) (h2 : x * 10 + d < 18446744073709551616) : addD x (48 + d) = x * 10 + d := by
  unfold addD
  rw [show 48 + d - 48 = d by omega, wrapB h1.1 (by omega), wrapU h1.1 (by omega), wrapU (x := x * 10) (by omega) (by omega), wrapU (by omega) h2]
theorem isDig_dig {d : Int} (h1 : 0 ≤ d ∧ d ≤ 9) : isDig (48 + d) = true := by
  unfold isDig
  simp
  omega
theorem digL_dec (u : Nat) (hu : u ≤ 9223372036854775808) : digL 0 (Lib.decDigits u) = (u : Int) := by
  induction u using Nat.strongRecOn with
  | ind u ih =>
    have key : ∀ (x : Int) (d : Nat), d < 10 → 0 ≤ x → x * 10 + d < 18446744073709551616 → digL x [UInt8.ofNat (48 + d)] = x * 10 + d := fun x d hd hx hb => by
      show (if isDig ((UInt8.ofNat (48 + d)).toNat : Int) = true then addD x ((UInt8.ofNat (48 + d)).toNat : Int) else x) = _
      rw [dig_val hd, show (((48 + d : Nat)) : Int) = 48 + (d : Int) by omega, if_pos (isDig_dig ⟨by omega, by omega⟩), addD_ok hx ⟨by omega, by omega⟩ hb]
    by_cases h : u < 10
    · rw [Lib.decDigits_one h, key 0 u h (by omega) (by omega)]; omega
    · rw [dec_rec h, digL_app, ih (u / 10) (by omega) (by omega), key _ _ (by omega) (by omega) (by omega)]; omega
theorem dig_all (s : ByteArray) : digK s s.size = digL 0 s.data.toList := by
  have hs : s.data.toList.length = s.size := Array.length_toList
  rw [digK_L s s.size (Nat.le_refl _), List.take_of_length_le (by omega)]
theorem numD_itoa {n : Int} (h : I64 n) : numD (numB n) = n := by
  obtain ⟨h0, h1⟩ := h
  have hd : (numB n).data.toList = Lib.itoa n := rfl
  have hb : byteAt (numB n) 0 = (((Lib.itoa n).getD 0 0).toNat : Int) := rfl
  have hz : (numB n).size = (Lib.itoa n).length := bs_size _
  unfold numD
  rw [dig_all, hd, hb, hz]
  by_cases hn : n < 0
  · have e := Lib.itoa_neg n.natAbs (by omega)
    rw [show -((n.natAbs : Nat) : Int) = n by omega] at e
    rw [e, if_pos ⟨Nat.succ_pos _, rfl⟩]
    have e2 : digL 0 (45 :: Lib.decDigits n.natAbs) = (n.natAbs : Int) := by
      show digL (if isDig ((45 : UInt8).toNat : Int) = true then addD 0 ((45 : UInt8).toNat : Int) else 0) (Lib.decDigits n.natAbs) = _
      rw [if_neg (by decide), digL_dec _ (by omega)]
    rw [e2]
    by_cases hm : n = -9223372036854775808
    · subst hm; decide
    · rw [wrapI (x := ((n.natAbs : Nat) : Int)) (by omega) (by omega), wrapI (by omega) (by omega)]; omega
  · have e := Lib.itoa_nonneg n.toNat
    rw [show ((n.toNat : Nat) : Int) = n by omega] at e
    obtain ⟨c, r, e2, g1, g2, _⟩ := dec_head n.toNat
    have e3 : digL 0 (Lib.itoa n) = n := by rw [e, digL_dec _ (by omega)]; omega
    rw [e3, if_neg, wrapI (by omega) (by omega)]
    rintro ⟨-, hc⟩
    rw [e, e2] at hc
    have : ((c.toNat : Nat) : Int) = 45 := hc
    omega
/-! ### The whole line -/
def wD (s : ByteArray) (i : Nat) : ByteArray := (padW (docWs s)).getD i e0
def momK (s : ByteArray) (k : Int) : Mo :=
  if k = 1 then ⟨numD (wD s 0), numD (wD s 1), 1, numD (wD s 3), ⟨#[]⟩, numD (wD s 5)⟩
  else if k = 2 then ⟨numD (wD s 0), numD (wD s 1), 2, numD (wD s 3), ⟨#[]⟩, placeD (wD s 5) whyL⟩
  else if k = 3 then ⟨numD (wD s 0), numD (wD s 1), 3, numD (wD s 3), wD s 4, numD (wD s 5)⟩
  else if k = 4 then ⟨numD (wD s 0), numD (wD s 1), 4, numD (wD s 3), wD s 4, 0⟩
  else if k = 5 then ⟨numD (wD s 0), numD (wD s 1), 5, 0, wD s 3, numD (wD s 5)⟩
  else if k = 6 then ⟨numD (wD s 0), numD (wD s 1), 6, numD (wD s 3), ⟨#[]⟩, placeD (wD s 4) kindL⟩
  else ⟨numD (wD s 0), numD (wD s 1), 0, numD (wD s 3), ⟨#[]⟩, 0⟩
def momD (s : ByteArray) : Mo := momK s (placeD (wD s 2) kindsL)
def readD (s : ByteArray) : Mo × Int := resD (momD s) s
theorem momD_i6 (s : ByteArray) : I6 (momD s) := by
  have hw := fun i => numD_i64 (wD s i)
  have h1 := place_i64 (wD s 5) whyL (by decide)
  have h2 := place_i64 (wD s 4) kindL (by decide)
  unfold momD momK
  generalize placeD (wD s 2) kindsL = k
  split
  · exact ⟨hw 0, hw 5⟩
  split
  · exact ⟨hw 0, h1⟩
  split
  · exact ⟨hw 0, hw 5⟩
  split
  · exact ⟨hw 0, i64_z⟩
  split
  · exact ⟨hw 0, hw 5⟩
  split
  · exact ⟨hw 0, h2⟩
  · exact ⟨hw 0, i64_z⟩
theorem why_place {k : Int} (h : 1 ≤ k ∧ k ≤ 3) : placeD (whyL.getD k.toNat ⟨#[]⟩) whyL = k := by
  have hk : k = 1 ∨ k = 2 ∨ k = 3 := by omega
  rcases hk with rfl | rfl | rfl <;> rfl
theorem kind_place {k : Int} (h : 1 ≤ k ∧ k ≤ 5) : placeD (kindL.getD k.toNat ⟨#[]⟩) kindL = k := by
  have hk : k = 1 ∨ k = 2 ∨ k = 3 ∨ k = 4 ∨ k = 5 := by omega
  rcases hk with rfl | rfl | rfl | rfl | rfl <;> rfl
theorem momD_line {m : Mo} (h : FitM m) (hi : I6 m) : momD (lineF m) = m := by
  have hw := doc_line h
  obtain ⟨st, no, kd, pe, na, nu⟩ := m
  have n1 := numD_itoa hi.1
  have n2 := numD_itoa (nd_i64 h.1.2)
  have n4 := numD_itoa hi.2
  simp only at n1 n2 n4
  unfold momD momK wD
  rw [hw]
  unfold wsT
  rcases fit_shape h with hs | hs | hs | hs | hs | hs
  · rw [rest_1 hs.1]
    obtain ⟨e1, e2, e3, e4⟩ := hs
    have n3 := numD_itoa (nd_i64 e2)
    simp only at e1 e3 n3; subst e1; subst e3
    show Mo.mk (numD (numB st)) (numD (numB no)) 1 (numD (numB pe)) _ (numD (numB nu)) = _
    rw [n1, n2, n3, n4]
  · rw [rest_2 hs.1]
    obtain ⟨e1, e2, e3, e4⟩ := hs
    have n3 := numD_itoa (nd_i64 e2)
    have n5 := why_place e4
    simp only at e1 e3 n3 n5; subst e1; subst e3
    show Mo.mk (numD (numB st)) (numD (numB no)) 2 (numD (numB pe)) _ (placeD (whyL.getD nu.toNat ⟨#[]⟩) whyL) = _
    rw [n1, n2, n3, n5]
  · rw [rest_3 hs.1]
    obtain ⟨e1, e2, e3, e4⟩ := hs
    have n3 := numD_itoa (nd_i64 e2)
    simp only at e1 n3; subst e1
    show Mo.mk (numD (numB st)) (numD (numB no)) 3 (numD (numB pe)) na (numD (numB nu)) = _
    rw [n1, n2, n3, n4]
  · rw [rest_4 hs.1]
    obtain ⟨e1, e2, e3, e4⟩ := hs
    have n3 := numD_itoa (nd_i64 e2)
    simp only at e1 e4 n3; subst e1; subst e4
    show Mo.mk (numD (numB st)) (numD (numB no)) 4 (numD (numB pe)) na 0 = _
    rw [n1, n2, n3]
  · rw [rest_5 hs.1]
    obtain ⟨e1, e2, e3, e4⟩ := hs
    simp only at e1 e2; subst e1; subst e2
    show Mo.mk (numD (numB st)) (numD (numB no)) 5 0 na (numD (numB nu)) = _
    rw [n1, n2, n4]
  · rw [rest_6 hs.1]
    obtain ⟨e1, e2, e3, e4⟩ := hs
    have n3 := numD_itoa (nd_i64 e2)
    have n5 := kind_place e4
    simp only at e1 e3 n3 n5; subst e1; subst e3
    show Mo.mk (numD (numB st)) (numD (numB no)) 6 (numD (numB pe)) _ (placeD (kindL.getD nu.toNat ⟨#[]⟩) kindL) = _
    rw [n1, n2, n3, n5]
theorem D1 {m : Mo} (h : FitM m) (hi : I6 m) : readD (lineF m) = (m, 0) := by
  unfold readD resD
  rw [momD_line h hi, fit_line h, if_neg]
  rintro (hc | hc)
  · exact line_ne m hc
  · exact hc rfl
theorem D2 (s : ByteArray) : (∃ m, FitM m ∧ I6 m ∧ lineF m = s) ∨ readD s = (mo0, 20) := by
  unfold readD resD
  by_cases h : s = ⟨#[]⟩ ∨ lineT (momD s) ≠ s
  · rw [if_pos h]; exact .inr rfl
  · have h1 : s ≠ ⟨#[]⟩ := fun e => h (.inl e)
    have h2 : lineT (momD s) = s := Classical.byContradiction fun e => h (.inr e)
    obtain ⟨g1, g2⟩ := line_fit h2 h1
    exact .inl ⟨_, g1, momD_i6 s, g2⟩
end Go.Proofs.YtkfbaeljcajjbaaGreatDoor

/- Both read the same. -/
namespace Go.Proofs.YtkfbaeljcajjbaaGreatDoor
open Go.RowKit Go.Dl
theorem ev_bad {w : ByteArray} {r : RS} (h : (evR w r).2.2.2.2 = false) : r.2 = false ∧ I64 (evR w r).2.2.1 := by
  unfold evR at h ⊢
  by_cases e1 : w = bs cHeld
  · rw [if_pos e1] at h ⊢
    have := num_bad (r := (wordR r).2) h
    exact ⟨word_bad this.1, this.2⟩
  rw [if_neg e1] at h ⊢
  by_cases e2 : w = bs cDropped
  · rw [if_pos e2] at h ⊢
    have := of_bad2 (r := (wordR r).2) (L := whyL) (by decide) h
    exact ⟨word_bad this.1, this.2⟩
  rw [if_neg e2] at h ⊢
  by_cases e3 : w = bs cBalanced
  · rw [if_pos e3] at h ⊢
    have := num_bad (r := (wordR r).2) h
    exact ⟨word_bad this.1, this.2⟩
  rw [if_neg e3] at h ⊢
  by_cases e4 : w = bs cRange
  · rw [if_pos e4] at h ⊢
    exact ⟨word_bad h, i64_z⟩
  rw [if_neg e4] at h ⊢
  by_cases e5 : w = bs cLearned
  · rw [if_pos e5] at h ⊢
    have := num_bad (r := (wordR (wordR r).2).2) h
    exact ⟨word_bad (word_bad this.1), this.2⟩
  rw [if_neg e5] at h ⊢
  by_cases e6 : w = bs cIgnored
  · rw [if_pos e6] at h ⊢
    exact of_bad2 (by decide) h
  rw [if_neg e6] at h ⊢
  exact ⟨h, i64_z⟩
theorem peer_bad {w : ByteArray} {r : RS} (h : (peerR w r).2.2 = false) : r.2 = false := by
  unfold peerR at h
  split at h
  · exact h
  · exact (num_bad h).1
theorem momR_i6 {s : ByteArray} (h : badR s = false) : I6 (momR s) := by
  have h1 := ev_bad h
  have h2 := peer_bad h1.1
  have h3 := word_bad h2
  have h4 := (num_bad h3).1
  exact ⟨(num_bad h4).2, h1.2⟩
theorem P2 (s : ByteArray) : (∃ m, FitM m ∧ I6 m ∧ lineF m = s) ∨ readT s = (mo0, 20) := by
  unfold readT
  by_cases h : badR s = true ∨ lineT (momR s) ≠ s ∨ s = ⟨#[]⟩
  · rw [if_pos h]; exact .inr rfl
  · have h0 : badR s = false := by
      cases e : badR s
      · rfl
      · exact absurd (.inl e) h
    have h1 : s ≠ ⟨#[]⟩ := fun e => h (.inr (.inr e))
    have h2 : lineT (momR s) = s := Classical.byContradiction fun e => h (.inr (.inl e))
    obtain ⟨g1, g2⟩ := line_fit h2 h1
    exact .inl ⟨_, g1, momR_i6 h0, g2⟩
theorem read_same (s : ByteArray) : readT s = readD s := by
  rcases P2 s with ⟨m, h1, h2, rfl⟩ | h1
  · rw [P1 h1 h2, D1 h1 h2]
  · rcases D2 s with ⟨m, h2, h3, rfl⟩ | h2
    · rw [P1 h2 h3, D1 h2 h3]
    · rw [h1, h2]
/-- Lines of unlike moments are unlike. -/
theorem line_inj {m n : Mo} (hm : FitM m) (hn : FitM n) (im : I6 m) (jn : I6 n) (h : lineF m = lineF n) : m = n := by
  have h1 := P1 hm im
  rw [h, P1 hn jn] at h1
  exact (congrArg Prod.fst h1).symm
theorem line_eq_iff {m n : Mo} (hm : FitM m) (im : I6 m) (jn : I6 n) : lineT m = lineT n ↔ m = n := by
  constructor
  · intro h
    rw [fit_line hm] at h
    have hne : lineT n ≠ ⟨#[]⟩ := by rw [← h]; exact line_ne m
    obtain ⟨hn, hf⟩ := line_fit (m := n) rfl hne
    exact line_inj hm hn im jn (by rw [h, hf])
  · intro h; rw [h]
theorem docW_size (s : ByteArray) (i : Nat) : ∀ x ∈ (docW s i).2, x.size ≤ s.size := by
  induction i with
  | zero => intro x hx; exact absurd hx List.not_mem_nil
  | succ i ih =>
    unfold docW
    split
    · intro x hx
      rcases List.mem_append.1 hx with hx | hx
      · exact ih x hx
      · rw [List.mem_singleton] at hx
        subst hx
        rw [ByteArray.size_extract]; omega
    · exact ih
theorem padW_size {l : List ByteArray} {n : Nat} (h : ∀ x ∈ l, x.size ≤ n) : ∀ x ∈ padW l, x.size ≤ n := by
  intro x hx
  rcases List.mem_append.1 hx with hx | hx
  · exact h x hx
  · have := List.eq_of_mem_replicate hx
    subst this
    exact Nat.zero_le _
theorem padW_six (l : List ByteArray) : 6 ≤ (padW l).length := by
  unfold padW
  rw [List.length_append, List.length_replicate]; omega
theorem pla_in (w : ByteArray) : ∀ (L : List ByteArray) (i : Nat), plA w L i = 0 ∨ ((i : Int) ≤ plA w L i ∧ plA w L i < i + L.length)
  | [], i => .inl rfl
  | y :: t, i => by
    unfold plA
    split
    · right; rw [List.length_cons]; omega
    · rcases pla_in w t (i + 1) with h | h
      · exact .inl h
      · right; rw [List.length_cons]; omega
theorem kinds_in (w : ByteArray) : placeD w kindsL = 0 ∨ placeD w kindsL = 1 ∨ placeD w kindsL = 2 ∨ placeD w kindsL = 3 ∨ placeD w kindsL = 4 ∨ placeD w kindsL = 5 ∨ placeD w kindsL = 6 := by
  have h := pla_in w (kindsL.drop 1) 1
  rw [show (kindsL.drop 1).length = 6 from rfl] at h
  unfold placeD
  omega
end Go.Proofs.YtkfbaeljcajjbaaGreatDoor

/- A line read, by the document: all kinds. -/
namespace Go.Proofs.YtkfbaeljcajjbaaGreatDoor
open Go.RowKit Go.Dl
theorem six_of {l : List ByteArray} (h : 6 ≤ l.length) : ∃ a b c d e f r, l = a :: b :: c :: d :: e :: f :: r := by
  match l, h with
  | a :: b :: c :: d :: e :: f :: r, _ => exact ⟨a, b, c, d, e, f, r, rfl⟩
theorem parse8_D (s : ByteArray) (hs : s.size < 4294967281) : DPure Tryz.prog 8 [strV s] (out7 (readT s)) := by
  obtain ⟨a, b, c, d, e, f, r, hN⟩ := six_of (padW_six (docWs s))
  have hz : ∀ x ∈ a :: b :: c :: d :: e :: f :: r, x.size ≤ 9223372036854775807 := fun x hx => by
    rw [← hN] at hx
    have := padW_size (docW_size s (s.size + 1)) x hx
    omega
  have ha := hz a (by simp)
  have hb := hz b (by simp)
  have hd := hz d (by simp)
  have he := hz e (by simp)
  have hf := hz f (by simp)
  have w0 : wD s 0 = a := by unfold wD; rw [hN]; rfl
  have w1 : wD s 1 = b := by unfold wD; rw [hN]; rfl
  have w2 : wD s 2 = c := by unfold wD; rw [hN]; rfl
  have w3 : wD s 3 = d := by unfold wD; rw [hN]; rfl
  have w4 : wD s 4 = e := by unfold wD; rw [hN]; rfl
  have w5 : wD s 5 = f := by unfold wD; rw [hN]; rfl
  rw [read_same]
  unfold readD momD momK
  rw [w0, w1, w2, w3, w4, w5]
  rcases kinds_in c with hk | hk | hk | hk | hk | hk | hk <;> rw [hk]
  · exact parse8_0 s hs a b c d e f r hN hk ha hb hd he hf
  · exact parse8_1 s hs a b c d e f r hN hk ha hb hd he hf
  · exact parse8_2 s hs a b c d e f r hN hk ha hb hd he hf
  · exact parse8_3 s hs a b c d e f r hN hk ha hb hd he hf
  · exact parse8_4 s hs a b c d e f r hN hk ha hb hd he hf
  · exact parse8_5 s hs a b c d e f r hN hk ha hb hd he hf
  · exact parse8_6 s hs a b c d e f r hN hk ha hb hd he hf
end Go.Proofs.YtkfbaeljcajjbaaGreatDoor

/- The document's examples: silence, what is selected. -/
namespace Go.Proofs.YtkfbaeljcajjbaaGreatDoor
open Go.RowKit Go.Dl
attribute [local irreducible] Tri SCall TSem ECall Drawn DFun QSem PSem PCall GCall MCall Round Weak dloadE OW DWl Tells Retold ESem
def mos (l : List Mo) : DV := .lst 6 (l.map moD)
def mS1 : Mo := ⟨1, 0, 0, 0, ⟨#[]⟩, 0⟩
def mS4 : Mo := ⟨4, 0, 0, 0, ⟨#[]⟩, 0⟩
def mX : Mo := ⟨3, 1, 1, 0, ⟨#[]⟩, 2⟩
theorem mosRow {l : List Mo} : ∀ r ∈ l.map moD, r.length = 6 ∧ r.all isData1 = true := by
  intro r hr
  obtain ⟨x, _, rfl⟩ := List.mem_map.1 hr
  exact ⟨rfl, rfl⟩
def fX : DV := .agg [.v (.slice none 0 0), .v (.slice none 0 0), .v (.slice none 0 0), strV ⟨#[]⟩, int1 0, int1 9]
set_option maxRecDepth 20000 in
set_option maxHeartbeats 2000000 in
theorem silence39_D : DPure Tryz.prog 39 [mos [mS1, mS4], int1 9] (.agg [int1 5, int1 9]) := by
  refine DFun.data (DFun.body Tryz.func39 rfl (by kernel_rfl) ?_)
  repeat' (first | with_reducible rfl | ((conv => whnf); first | refine And.intro ?_ ?_ | (intro h; first | with_reducible exact tf_no h | with_reducible exact ft_no h | exact Bool.noConfusion h | with_reducible exact h | (have ht : true = true := h; clear ht h) | skip) | ((with_reducible refine DWl.mark ?_); repeat' (first | refine DWl.cons ?_ ?_ | exact DWl.nil | exact DW.same _ rfl | exact DW.ref _ _ _ rfl | exact DW.arr _ _ _ rfl | exact DW.sub _ _ _ _ rfl | exact DW.nilLst _ | refine DW.aggl ?_ | refine DW.tupl ?_ | refine DW.clol ?_ ?_ | refine DW.int ?_ | refine DW.bool ?_ | refine DW.str ?_)) | ((with_reducible refine Tri.mark ?_); first | (refine Tri.at 23 (int1 0) (by rfl) ?_; refine Tri.rounds 3 (by kernel_rfl) ?_) | (refine Tri.at 43 (int1 0) (by rfl) ?_; refine Tri.rounds 11 (by kernel_rfl) ?_)) | ((with_reducible refine ECall.mark ?_); first | refine ECall.only ?_ (fun h => nomatch h) | refine ECall.only ?_ ?_) | ((with_reducible refine Drawn.mark ?_); first | refine Drawn.quiet (by kernel_rfl) ?_) | refine dloadE_map (mo0) ?_ ?_ | refine dcell_ok rfl ?_ | refine AppC.new ?_))
  all_goals first | (with_reducible refine enters_mark ?_; kernel_rfl) | (with_reducible refine boolT_mark ?_; kernel_rfl) | rfl | trivial | assumption | exact Nat.le_of_ble_eq_true rfl | (show entersB _ _ = true; kernel_rfl) | exact DW.same _ rfl | exact DW.ref _ _ _ rfl | exact DW.arr _ _ _ rfl | refine DW.int ?_ | refine dvb ?_ | refine dvi ?_ | exact OW.cells rfl rfl (DWl.same rfl) | exact Nat.zero_le _ | omega | skip
  all_goals repeat' (first | refine OW.cells rfl rfl ?_ | exact DW.nilArr _ rfl | refine DWl.cons ?_ ?_ | exact DWl.nil | exact DW.same _ rfl | exact DW.ref _ _ _ rfl | exact DW.arr _ _ _ rfl | exact DW.sub _ _ _ _ rfl | exact DW.nilLst _ | refine DW.aggl ?_ | refine DW.tupl ?_ | refine DW.clol ?_ ?_)
  all_goals try ((conv => whnf); with_reducible first | refine Round.mark ?_ | refine Tells.mark ?_ | refine Retold.mark ?_)
  all_goals try first | (show (_ : Bool) = _; simp_all; done) | (show (_ : Int) < _; simp at *; omega) | (show (_ : Int) ≤ _; simp at *; omega) | (show (_ : Nat) < _; simp at *; omega) | (show (_ : Nat) ≤ _; simp at *; omega)
  exact Tells.mk (DW.aggl (DWl.cons (DW.int rfl) (DWl.cons (DW.int rfl) DWl.nil)))
set_option maxRecDepth 20000 in
set_option maxHeartbeats 2000000 in
theorem passes40_D : DPure Tryz.prog 40 [.agg (moD mX), fX] (bl true) := by
  refine DFun.data (DFun.body Tryz.func40 rfl (by kernel_rfl) ?_)
  repeat' (first | with_reducible rfl | ((conv => whnf); first | refine And.intro ?_ ?_ | (intro h; first | with_reducible exact tf_no h | with_reducible exact ft_no h | exact Bool.noConfusion h | with_reducible exact h | (have ht : true = true := h; clear ht h) | skip) | ((with_reducible refine DWl.mark ?_); repeat' (first | refine DWl.cons ?_ ?_ | exact DWl.nil | exact DW.same _ rfl | exact DW.ref _ _ _ rfl | exact DW.arr _ _ _ rfl | exact DW.sub _ _ _ _ rfl | exact DW.nilLst _ | refine DW.aggl ?_ | refine DW.tupl ?_ | refine DW.clol ?_ ?_ | refine DW.int ?_ | refine DW.bool ?_ | refine DW.str ?_)) | ((with_reducible refine GCall.mark ?_); first | refine GCall.data (r := bl false) (fun hg => absurd hg (by decide)) rfl rfl ?_) | ((with_reducible refine Tri.mark ?_); first | refine Tri.scope (by kernel_rfl) ?_ | refine Tri.rounds 4 (by kernel_rfl) ?_) | ((with_reducible refine ECall.mark ?_); first | refine ECall.only ?_ (fun h => nomatch h) | refine ECall.only ?_ ?_) | ((with_reducible refine Drawn.mark ?_); first | refine Drawn.quiet (by kernel_rfl) ?_) | refine dcell_ok rfl ?_ | refine AppC.new ?_))
  all_goals first | (with_reducible refine enters_mark ?_; kernel_rfl) | (with_reducible refine boolT_mark ?_; kernel_rfl) | rfl | trivial | assumption | exact Nat.le_of_ble_eq_true rfl | (show entersB _ _ = true; kernel_rfl) | exact DW.same _ rfl | exact DW.ref _ _ _ rfl | exact DW.arr _ _ _ rfl | refine DW.int ?_ | refine dvb ?_ | refine dvi ?_ | exact OW.cells rfl rfl (DWl.same rfl) | exact Nat.zero_le _ | omega | skip
  all_goals repeat' (first | refine OW.cells rfl rfl ?_ | exact DW.nilArr _ rfl | refine DWl.cons ?_ ?_ | exact DWl.nil | exact DW.same _ rfl | exact DW.ref _ _ _ rfl | exact DW.arr _ _ _ rfl | exact DW.sub _ _ _ _ rfl | exact DW.nilLst _ | refine DW.aggl ?_ | refine DW.tupl ?_ | refine DW.clol ?_ ?_)
  all_goals try ((conv => whnf); with_reducible first | refine Round.mark ?_ | refine Tells.mark ?_ | refine Retold.mark ?_)
  all_goals try first | (show (_ : Bool) = _; simp_all; done) | (show (_ : Int) < _; simp at *; omega) | (show (_ : Int) ≤ _; simp at *; omega) | (show (_ : Nat) < _; simp at *; omega) | (show (_ : Nat) ≤ _; simp at *; omega)
  exact Tells.mk (DW.bool rfl)
set_option maxRecDepth 20000 in
set_option maxHeartbeats 2000000 in
theorem select14_D : DPure Tryz.prog 14 [mos [mX], fX] (mos [mX]) := by
  refine DFun.data (DFun.body Tryz.func14 rfl (by kernel_rfl) ?_)
  repeat' (first | with_reducible rfl | ((conv => whnf); first | refine And.intro ?_ ?_ | (intro h; first | with_reducible exact tf_no h | with_reducible exact ft_no h | exact Bool.noConfusion h | with_reducible exact h | (have ht : true = true := h; clear ht h) | skip) | ((with_reducible refine DWl.mark ?_); repeat' (first | refine DWl.cons ?_ ?_ | exact DWl.nil | exact DW.same _ rfl | exact DW.ref _ _ _ rfl | exact DW.arr _ _ _ rfl | exact DW.sub _ _ _ _ rfl | exact DW.nilLst _ | refine DW.aggl ?_ | refine DW.tupl ?_ | refine DW.clol ?_ ?_ | refine DW.int ?_ | refine DW.bool ?_ | refine DW.str ?_)) | ((with_reducible refine SCall.mark ?_); first | refine SCall.data (passes40_D) rfl rfl ?_ | refine SCall.scal (passes40_D) rfl rfl ?_) | ((with_reducible refine PCall.mark ?_); first | refine PCall.mk (passes40_D) rfl rfl ?_) | ((with_reducible refine GCall.mark ?_); first | refine GCall.data (fun _ => passes40_D) rfl rfl ?_ | refine GCall.scal (fun _ => passes40_D) rfl rfl ?_) | ((with_reducible refine MCall.mark ?_); first | refine MCall.data (fun _ => passes40_D) rfl rfl ?_ | refine MCall.plain (PCall.mk (passes40_D) rfl rfl ?_)) | ((with_reducible refine Tri.mark ?_); first | refine Tri.rounds 2 (by kernel_rfl) ?_) | ((with_reducible refine ECall.mark ?_); first | refine ECall.only ?_ (fun h => nomatch h) | refine ECall.only ?_ ?_) | ((with_reducible refine Drawn.mark ?_); first | refine Drawn.quiet (by kernel_rfl) ?_) | refine dloadE_map (mo0) ?_ ?_ | refine dcell_ok rfl ?_ | refine AppC.new ?_))
  all_goals first | (with_reducible refine enters_mark ?_; kernel_rfl) | (with_reducible refine boolT_mark ?_; kernel_rfl) | rfl | trivial | assumption | exact Nat.le_of_ble_eq_true rfl | (show entersB _ _ = true; kernel_rfl) | exact DW.same _ rfl | exact DW.ref _ _ _ rfl | exact DW.arr _ _ _ rfl | refine DW.int ?_ | refine dvb ?_ | refine dvi ?_ | exact OW.cells rfl rfl (DWl.same rfl) | exact Nat.zero_le _ | omega | skip
  all_goals repeat' (first | refine OW.cells rfl rfl ?_ | exact DW.nilArr _ rfl | refine DWl.cons ?_ ?_ | exact DWl.nil | exact DW.same _ rfl | exact DW.ref _ _ _ rfl | exact DW.arr _ _ _ rfl | exact DW.sub _ _ _ _ rfl | exact DW.nilLst _ | refine DW.aggl ?_ | refine DW.tupl ?_ | refine DW.clol ?_ ?_)
  all_goals try ((conv => whnf); with_reducible first | refine Round.mark ?_ | refine Tells.mark ?_ | refine Retold.mark ?_)
  all_goals try first | (show (_ : Bool) = _; simp_all; done) | (show (_ : Int) < _; simp at *; omega) | (show (_ : Int) ≤ _; simp at *; omega) | (show (_ : Nat) < _; simp at *; omega) | (show (_ : Nat) ≤ _; simp at *; omega)
  conv => whnf
  exact Tells.mk (DW.pubM (l := [mX]) rfl rfl rfl rfl mosRow rfl)
end Go.Proofs.YtkfbaeljcajjbaaGreatDoor
