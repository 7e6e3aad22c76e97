/- strings.IndexRune in few ASCII bytes, at a rune that is none: the kit's walk. -/
import Derived.Test.YtlchjjchgebfiaaGreatDoorPkF
import Derived.WalkKit
import Derived.Deep.LoopGhost
import Derived.Laws.RangeAny
import Derived.Laws.Runes
import Derived.Shelf.Small.Utf8
import Derived.Shelf.Strings.IndexAny
import Derived.Deep.QuietTactic
import Derived.BigQuiet
import Derived.Deep.DeepMust
import Derived.Lib.OthersKept

namespace Go.Proofs.YtlchjjchgebfiaaGreatDoor
open Go Go.RowKit Go.Dl
set_option maxHeartbeats 8000000 in
set_option maxRecDepth 1000000 in
theorem rune129_fe (s : ByteArray) (hascii : ∀ (j : Nat) b, s.data.toList[j]? = some b → b.toNat < 128) (w : World) :
    Calls Tryz.prog 129 #[.string s, .int .i32 65533] w fun e w' => e = .returned (.int .i64 (-1)) ∧ Below w.heap.size w w' := by
  have HA : Aside (∀ (j : Nat) b, s.data.toList[j]? = some b → b.toNat < 128) := hascii
  clear hascii
  have hB : ∀ i, Below w.heap.size w (w.iter s i) := fun i => (Below.refl _ w).alloc (Nat.le_refl _) _
  have HB : Aside (∀ i, Below w.heap.size w (w.iter s i)) := hB
  clear hB
  go_enter Tryz.func129, Tryz.ntmps129
  go_wp2
  go_loopg [5, 6] s.size (fun g _ _ wx => ∃ i : Nat, i + g = s.size ∧ wx = w.iter s i)
  case atStart => exact ⟨0, by omega, rfl⟩
  case round =>
    obtain ⟨i, hig, rfl⟩ := hrel
    cases gk with
    | zero =>
      obtain rfl : i = s.size := by omega
      have hnx := run_next_end (P := Tryz.prog) w s s.size
      go_wp2
      go_ret
      exact ⟨rfl, HB.out _⟩
    | succ g =>
      have hi : i < s.size := by omega
      obtain ⟨x, hx⟩ : ∃ x : UInt8, s[i]'hi = x := ⟨_, rfl⟩
      have hxl : s.data.toList[i]? = some x := by rw [← hx]; exact Lib.data_getElem? s i hi
      have hx128 : x.toNat < 128 := HA.out i x hxl
      have hnx := fun ty => run_next_ascii (P := Tryz.prog) w s i ty hi (by rw [hx]; exact hx128)
      rw [hx] at hnx
      clear hxl hx
      go_wp2
      go_roundg g
      case measure => omega
      case rel => exact ⟨i + 1, by omega, rfl⟩
set_option maxHeartbeats 8000000 in
set_option maxRecDepth 1000000 in
theorem rune129_bad (s : ByteArray) (r : Int) (h128 : 128 ≤ r) (hfe : (r == 65533) = false) (hv : Lib.validRune r = false) (w : World) :
    Calls Tryz.prog 129 #[.string s, .int .i32 r] w fun e w' => e = .returned (.int .i64 (-1)) ∧ w' = w := by
  have e150 : ∀ args w, (callFunc 150 args).run Tryz.prog w = .ok (.enter 150 args) w := enters_of Tryz.func150 (by kernel_rfl) rfl
  go_enter Tryz.func129, Tryz.ntmps129
  go_wp2_with (go_at_fn 150; refine (Any.utf8_ValidRune { Tryz.laysAny with } _ _).mono ?_; rintro e w' ⟨rfl, hw⟩; rw [hw, hv])
  go_ret
  exact ⟨rfl, rfl⟩
theorem idx_none (c : UInt8) : ∀ l : List UInt8, (∀ b ∈ l, b ≠ c) → Lib.indexByte l c = -1
  | [], _ => rfl
  | b :: l, h => by
    have hb : ¬ (b == c) = true := fun e => h b (List.mem_cons_self ..) (beq_iff_eq.1 e)
    rw [Lib.indexByte, if_neg hb, idx_none c l fun x hx => h x (List.mem_cons_of_mem _ hx)]
    rfl
theorem bnot_of {x y : UInt8} (hx : x.toNat < 128) (hy : 128 ≤ y.toNat) : x ≠ y := fun e => by subst e; omega
set_option maxHeartbeats 8000000 in
set_option maxRecDepth 1000000 in
theorem rune129_ok (s : ByteArray) (h4 : s.size = 4) (hascii : ∀ b ∈ s.data.toList, b.toNat < 128) (r : Int) (h128 : 128 ≤ r) (hfe : (r == 65533) = false) (hv : Lib.validRune r = true) (hu : Utf8.valid r = true) (w : World) :
    Calls Tryz.prog 129 #[.string s, .int .i32 r] w fun e w' => e = .returned (.int .i64 (-1)) ∧ Below w.heap.size w w' := by
  have e150 : ∀ args w, (callFunc 150 args).run Tryz.prog w = .ok (.enter 150 args) w := enters_of Tryz.func150 (by kernel_rfl) rfl
  have e108 : ∀ args w, (callFunc 108 args).run Tryz.prog w = .ok (.enter 108 args) w := enters_of Tryz.func108 (by kernel_rfl) rfl
  obtain ⟨hn2, hn4, hlast⟩ := encode_facts r hu h128
  obtain ⟨rs, hrs⟩ : ∃ rs, Utf8.encode r = rs := ⟨_, rfl⟩
  have hconv := fun (w : World) => run_convert_int_string (P := Tryz.prog) w 21 9 .i32 r (by rw [Tryz.underlying21]; rfl) Tryz.underlying9
  rw [hrs] at hn2 hn4 hlast hconv
  go_enter Tryz.func129, Tryz.ntmps129
  go_wp2_with (go_at_fn 150; refine (Any.utf8_ValidRune { Tryz.laysAny with } _ _).mono ?_; rintro e w' ⟨rfl, hw⟩; rw [hw, hv])
  subst hw
  obtain ⟨n, hn⟩ : ∃ n, rs.size = n + 1 := ⟨rs.size - 1, by omega⟩
  have hws : IntKind.i64.wrap ((rs.size : Int) - 1) = (n : Int) := by rw [wrapI (by omega) (by omega)]; omega
  have hwn : IntKind.i64.wrap ((n : Int) + 1) = ((n + 1 : Nat) : Int) := wsucc (n := 5) (by omega) (by omega)
  have hns : (n : Int) < (s.size : Int) := by omega
  have hnr : (n : Int) < (rs.size : Int) := by omega
  have hn4i : (n : Int) < 4 := by omega
  have hn5i : (n : Int) + 1 ≤ 4 := by omega
  have hn5j : (0 : Int) ≤ (n : Int) + 1 := by omega
  have hn5k : (n : Int) + 1 ≤ (s.size : Int) := by omega
  have hs' : n < s.size := by omega
  have hr' : n < rs.size := by omega
  obtain ⟨x, hx⟩ : ∃ x : UInt8, s[n]'hs' = x := ⟨_, rfl⟩
  obtain ⟨y, hy⟩ : ∃ y : UInt8, rs[n]'hr' = y := ⟨_, rfl⟩
  have hy128 : 128 ≤ y.toNat := by
    have h := hlast (by omega)
    have e : ∀ k (hk : k < rs.size), k = n → rs[k]'hk = y := fun k hk e => by subst e; exact hy
    rw [e _ _ (by omega)] at h
    exact h
  have hx128 : x.toNat < 128 := hascii x (by rw [← hx]; exact Array.getElem_mem_toList (xs := s.data) hs')
  have hxy : (((x.toNat : Int)) != ((y.toNat : Int))) = true := by
    rw [bne_iff_ne]; omega
  have hidx : ∀ a b, Lib.indexByte (s.extract a b).data.toList ((y.toNat : Int)).toNat.toUInt8 = -1 := fun a b => by
    rw [show ((y.toNat : Int)).toNat.toUInt8 = y by simp]
    exact idx_none y _ fun c hc => bnot_of (hascii c (mem_extract hc)) hy128
  have hiS : ∀ w : World, (Instr.index 9 (.string s) (.int .i64 (n : Int))).run Tryz.prog w = .ok (.int .u8 (x.toNat : Int)) w := fun w => by
    rw [run_index_string w 9 s .i64 n Tryz.underlying9, dif_pos ⟨by omega, hns⟩, ← hx]; rfl
  have hiR : ∀ w : World, (Instr.index 9 (.string rs) (.int .i64 (n : Int))).run Tryz.prog w = .ok (.int .u8 (y.toNat : Int)) w := fun w => by
    rw [run_index_string w 9 rs .i64 n Tryz.underlying9, dif_pos ⟨by omega, hnr⟩, ← hy]; rfl
  have hcal : ∀ a b (w : World), Calls Tryz.prog 108 #[.string (s.extract a b), .int .u8 (y.toNat : Int)] w fun e w' => e = .returned (.int .i64 (-1)) ∧ w' = w := fun a b w =>
    (Any.strings_IndexByte { Tryz.laysAny with } (s.extract a b) (y.toNat : Int) w).mono fun e w' ⟨he, hw⟩ => ⟨by rw [he, hidx], hw⟩
  have hB : ∀ k, Below w'.heap.size w' (w'.drewN k) := fun k => below_drew w' k
  have HB : Aside (∀ k, Below w'.heap.size w' (w'.drewN k)) := hB
  clear hidx hB hascii hx hy hlast hrs hnr hr' hs'
  go_step3
  go_wp2
  refine wp_loop_rounds 1 ?_
  rw [rounds_succ]
  go_wp2
  go_step3
  go_wp2
  go_quiet (fail)
  go_wp2
  go_quiet (first | (go_at_call 108; go_must (refine (hcal _ _ _).mono fun e w2 ⟨he, hm⟩ => ⟨he, _, hm⟩)))
  go_wp2
  rw [Exit.noGoto_ret]
  go_wp2
  rw [Exit.noGoto_ret]
  go_ret
  exact ⟨rfl, HB.out _⟩
theorem chars_asc : ∀ (j : Nat) b, charsB.data.toList[j]? = some b → b.toNat < 128 := fun j b hb => by
  match j, hb with
  | 0, hb => cases hb; decide
  | 1, hb => cases hb; decide
  | 2, hb => cases hb; decide
  | 3, hb => cases hb; decide
theorem chars_mem : ∀ b ∈ charsB.data.toList, b.toNat < 128 := by decide
/-- IndexRune at a rune that is none of ASCII's: there is none in the four bytes. -/
theorem rune129_high (r : Int) (h128 : 128 ≤ r) (w : World) :
    Calls Tryz.prog 129 #[.string charsB, .int .i32 r] w fun e w' => e = .returned (.int .i64 (-1)) ∧ Below w.heap.size w w' := by
  cases hfe : r == 65533 with
  | true =>
    obtain rfl := eq_of_beq hfe
    exact rune129_fe charsB chars_asc w
  | false =>
    cases hv : Lib.validRune r with
    | false => exact (rune129_bad charsB r h128 hfe hv w).mono fun e w' ⟨he, hw⟩ => ⟨he, by rw [hw]; exact Below.refl _ w⟩
    | true => exact rune129_ok charsB rfl chars_mem r h128 hfe hv (by
        rw [validRune_eq]; exact hv) w
end Go.Proofs.YtlchjjchgebfiaaGreatDoor

/- strings.ContainsAny of four ASCII bytes, in whatever text: the kit's walk. -/
namespace Go.Proofs.YtlchjjchgebfiaaGreatDoor
open Go Go.RowKit Go.Dl
attribute [local irreducible] Tri SCall TSem ECall Drawn DFun QSem PSem PCall GCall MCall Round Weak dloadE OW DWl Tells IntKind.wrap Retold ESem
theorem cont_high {s : ByteArray} {i k : Nat} {y : UInt8} (h : (decide (i + k < s.size) && (s.get! (i + k)).toNat / 64 == 2) = true) (hy : s.data.toList[i + k]? = some y) : 128 ≤ y.toNat := by
  rw [Bool.and_eq_true] at h
  have h1 := of_decide_eq_true h.1
  have h2 := eq_of_beq h.2
  have e : s.get! (i + k) = y := by
    rw [show s.get! (i + k) = s.get! ((i + k) + 0) from rfl, get_at s (i + k) h1]
    have := Lib.data_getElem? s (i + k) h1
    rw [hy] at this
    exact (Option.some.inj this).symm
  rw [e] at h2
  omega
theorem decode_bytes (s : ByteArray) (i : Nat) (h : i < s.size) (ha : 128 ≤ (s[i]'h).toNat) : ∀ k, k < (Utf8.decode s i).2 → ∀ y, s.data.toList[i + k]? = some y → 128 ≤ y.toNat := by
  have h0 : ∀ y, s.data.toList[i + 0]? = some y → 128 ≤ y.toNat := fun y hy => by
    have := Lib.data_getElem? s i h
    rw [Nat.add_zero, this] at hy
    cases hy; exact ha
  have hn : ¬ (s[i]'h).toNat < 128 := by omega
  have hone : ∀ k, k < 1 → ∀ y, s.data.toList[i + k]? = some y → 128 ≤ y.toNat := fun k hk y hy => by
    obtain rfl : k = 0 := by omega
    exact h0 y hy
  unfold Utf8.decode
  simp only [get_at s i h, hn, if_false]
  split
  · rename_i h1
    rw [Bool.and_eq_true] at h1
    split
    · intro k hk y hy
      match k, hk with
      | 0, _ => exact h0 y hy
      | 1, _ => exact cont_high h1.2 hy
    · exact hone
  · split
    · rename_i h1
      rw [Bool.and_eq_true, Bool.and_eq_true] at h1
      split
      · intro k hk y hy
        match k, hk with
        | 0, _ => exact h0 y hy
        | 1, _ => exact cont_high h1.1.2 hy
        | 2, _ => exact cont_high h1.2 hy
      · exact hone
    · split
      · rename_i h1
        rw [Bool.and_eq_true, Bool.and_eq_true, Bool.and_eq_true] at h1
        split
        · intro k hk y hy
          match k, hk with
          | 0, _ => exact h0 y hy
          | 1, _ => exact cont_high h1.1.1.2 hy
          | 2, _ => exact cont_high h1.1.2 hy
          | 3, _ => exact cont_high h1.2 hy
        · exact hone
      · exact hone
theorem no_step {s chars : List UInt8} {i n : Nat} (h : Lib.NoAny s chars i) (hc : ∀ b ∈ chars, b.toNat < 128) (hb : ∀ k, k < n → ∀ y, s[i + k]? = some y → 128 ≤ y.toNat) : Lib.NoAny s chars (i + n) := fun j b hj hb1 => by
  rcases Nat.lt_or_ge j i with h1 | h1
  · exact h j b h1 hb1
  · have := hb (j - i) (by omega) b (by rw [show i + (j - i) = j by omega]; exact hb1)
    cases e : chars.contains b with
    | false => rfl
    | true => have := hc b (List.contains_iff_mem.1 e); omega
theorem no_all {s chars : List UInt8} {i : Nat} (h : Lib.NoAny s chars i) (hi : s.length ≤ i) : Lib.NoAny s chars s.length := fun j b hj hb => h j b (by omega) hb
structure ItR (s : ByteArray) (i : Nat) (w wx : World) : Prop where
  below : Below w.heap.size w wx
  it : wx.heap[w.heap.size]? = some (.stringIter s i)
  no : Lib.NoAny s.data.toList charsB.data.toList i
theorem it_start (s : ByteArray) (w : World) : ItR s 0 w (w.iter s 0) := ⟨(Below.refl _ w).alloc (Nat.le_refl _) _, World.iter_heap w s 0, Lib.NoAny.zero _ _⟩
theorem it_size {s : ByteArray} {i : Nat} {w wx : World} (h : ItR s i w wx) : w.heap.size < wx.heap.size := (Array.getElem?_eq_some_iff.1 h.it).1
theorem it_next {s : ByteArray} {i n : Nat} {w wx w2 : World} (h : ItR s i w wx) (hno : Lib.NoAny s.data.toList charsB.data.toList (i + n)) (hw : Below (wx.iterAt w.heap.size s (i + n)).heap.size (wx.iterAt w.heap.size s (i + n)) w2) : ItR s (i + n) w w2 := by
  have hs := it_size h
  have h1 := Lib.iterAt_heap wx w.heap.size s i (i + n) h.it
  have h2 : Below w.heap.size w (wx.iterAt w.heap.size s (i + n)) := Lib.below_iterAt h.below (Nat.le_refl _) s (i + n)
  refine ⟨h2.trans ⟨hw.os, hw.tape, hw.output, hw.size, fun k hk => hw.block k (by rw [Lib.iterAt_size]; omega)⟩, ?_, hno⟩
  rw [hw.block _ (by rw [Lib.iterAt_size]; exact hs)]
  exact h1
set_option maxHeartbeats 8000000 in
set_option maxRecDepth 1000000 in
theorem any105_short (s : ByteArray) (h8 : s.size ≤ 8) (w : World) :
    Calls Tryz.prog 105 #[.string s, .string charsB] w fun e w' => e = .returned (.int .i64 (Lib.indexAny s.data.toList charsB.data.toList)) ∧ Below w.heap.size w w' := by
  have h8z : decide ((8 : Int) < (s.size : Int)) = false := decide_eq_false (by omega)
  have e129 : ∀ args w, (callFunc 129 args).run Tryz.prog w = .ok (.enter 129 args) w := enters_of Tryz.func129 (by kernel_rfl) rfl
  have e130 : ∀ args w, (callFunc 130 args).run Tryz.prog w = .ok (.enter 130 args) w := enters_of Tryz.func130 (by kernel_rfl) rfl
  have hemp : charsB.toList.isEmpty = false := by rw [Lib.toList_data]; rfl
  have hn1 : ((charsB.size : Int) == 1) = false := rfl
  have HS : Aside (ItR s 0 w (w.iter s 0)) := it_start s w
  go_enter Tryz.func105, Tryz.ntmps105
  go_wp2_with (go_at_fn 130; refine (Any.strings_shouldUseASCIISet { Tryz.laysAny with } _ _).mono ?_; rintro e w' ⟨rfl, hw⟩; rw [hw, h8z])
  go_loopg [9, 10] s.size (fun g _ _ wx => ∃ i : Nat, s.size - i = g ∧ Aside (ItR s i w wx))
  case atStart => exact ⟨0, by omega, HS.out⟩
  case round =>
    obtain ⟨i, hig, HI⟩ := hrel
    by_cases hi : i < s.size
    · obtain ⟨x, hx⟩ : ∃ x : UInt8, s[i]'hi = x := ⟨_, rfl⟩
      have hxl : s.data.toList[i]? = some x := by rw [← hx]; exact Lib.data_getElem? s i hi
      by_cases hx128 : x.toNat < 128
      · have hnx := fun ty => Lib.run_next_ascii_at (P := Tryz.prog) _ _ s i ty HI.out.it hi (by rw [hx]; exact hx128)
        rw [hx] at hnx
        have Hx : Aside (s.data.toList[i]? = some x) := hxl
        clear hxl hx
        have hcon := Lib.contains_iff_indexByte charsB.data.toList x
        have hback : ((x.toNat : Int)).toNat.toUInt8 = x := by simp
        cases hin : charsB.data.toList.contains x
        · rw [hin] at hcon
          have hlt : ¬ ((0 : Int) ≤ Lib.indexByte charsB.data.toList x) := of_decide_eq_false hcon.symm
          clear hcon
          have HN : Aside (ItR s (i + 1) w (World.iterAt _ w.heap.size s (i + 1))) := it_next HI.out (HI.out.no.succ Hx.out hin) (Below.refl _ _)
          go_wp2_with (go_at_fn 129; refine (Any.strings_IndexRune_ascii { Tryz.laysAny with } _ _ _ (by omega) (by omega)).mono ?_; rintro e w' ⟨rfl, hw⟩; rw [hw, hback])
          go_roundg (s.size - (i + 1))
          case measure => omega
          case rel => exact ⟨i + 1, rfl, HN⟩
        · rw [hin] at hcon
          have hge : (0 : Int) ≤ Lib.indexByte charsB.data.toList x := of_decide_eq_true hcon.symm
          clear hcon
          have HN : Aside (Below w.heap.size w (World.iterAt _ w.heap.size s (i + 1))) := Lib.below_iterAt HI.out.below (Nat.le_refl _) s (i + 1)
          go_wp2_with (go_at_fn 129; refine (Any.strings_IndexRune_ascii { Tryz.laysAny with } _ _ _ (by omega) (by omega)).mono ?_; rintro e w' ⟨rfl, hw⟩; rw [hw, hback])
          go_ret
          exact ⟨by rw [Lib.indexAny_hit HI.out.no Hx.out hin]; rfl, HN.out⟩
      · have hdec := decode_high s i hi (by rw [hx]; omega)
        have hnx := fun ty => Lib.run_next_any_at (P := Tryz.prog) _ _ s i ty HI.out.it hi
        have hby := decode_bytes s i hi (by rw [hx]; omega)
        have hno := no_step HI.out.no chars_mem hby
        have hstep := fun w2 => it_next (w2 := w2) HI.out hno
        generalize (Utf8.decode s i).1 = c at hnx hdec
        generalize (Utf8.decode s i).2 = n at hnx hdec hno hstep
        have HN : Aside (∀ w2, Below (World.iterAt _ w.heap.size s (i + n)).heap.size (World.iterAt _ w.heap.size s (i + n)) w2 → ItR s (i + n) w w2) := hstep
        have hn1' := hdec.2
        clear hxl hx hby hno hstep
        go_wp2_with (go_at_fn 129; refine (rune129_high _ (by omega) _).mono ?_; rintro e w' ⟨rfl, hw⟩)
        go_roundg (s.size - (i + n))
        case measure => omega
        case rel => exact ⟨i + n, rfl, HN.out _ hw⟩
    · have hnx := fun ty => Lib.run_next_end_at (P := Tryz.prog) _ _ s i ty HI.out.it hi
      go_wp2
      go_ret
      exact ⟨by rw [Lib.indexAny_none (no_all HI.out.no (by rw [sz_len]; omega))]; rfl, HI.out.below⟩
theorem info116 : (Tryz.prog.info? (Tryz.laysAny_ren.t 116)).map (fun i => (i.zero, i.size)) = some (some (.agg (Array.replicate 256 (.bool false))), 256) := by kernel_rfl
theorem any105_kit (s : ByteArray) (hs : s.size < 4294967281) (w : World) :
    Calls Tryz.prog 105 #[.string s, .string charsB] w fun e w' => e = .returned (.int .i64 (Lib.indexAny s.data.toList charsB.data.toList)) ∧ Below w.heap.size w w' := by
  by_cases h8 : s.size ≤ 8
  · exact any105_short s h8 w
  · refine (Any.strings_IndexAny_long { Tryz.laysAny with } (zero_of_info info116).1 (zero_of_info info116).2 s charsB w (by decide) (by omega) hs (by decide) chars_asc).mono fun e w' ⟨h1, h2⟩ => ⟨h1, ?_⟩
    rw [h2]
    exact ((Below.refl _ _).alloc (Nat.le_refl _) _).alloc (by simp) _
set_option maxHeartbeats 1000000 in
set_option maxRecDepth 100000 in
theorem any77_kit (s : ByteArray) (hs : s.size < 4294967281) (w : World) :
    Calls Tryz.prog 77 #[.string s, .string charsB] w fun e w' => e = .returned (.bool (Lib.containsAny s.data.toList charsB.data.toList)) ∧ Below w.heap.size w w' := by
  have c := any105_kit s hs w
  have e105 : ∀ args w, (callFunc 105 args).run Tryz.prog w = .ok (.enter 105 args) w := enters_of Tryz.func105 (by kernel_rfl) rfl
  go_enter Tryz.func77, Tryz.ntmps77
  go_wp2_with (go_at_fn 105; refine c.mono ?_; rintro e w' ⟨rfl, hw⟩)
  go_ret
  exact ⟨rfl, hw⟩
theorem any77_G (s : ByteArray) (hs : s.size < 4294967281) : DPure Tryz.prog 77 [strV s, strV charsB] (bl (Lib.containsAny s.data.toList charsB.data.toList)) :=
  DPure.kit (args := [.string s, .string charsB]) fun w _ => (any77_kit s hs w).mono fun e w' ⟨he, hw⟩ => ⟨_, he, hw, fun F hF => .data (.v _ rfl)⟩
attribute [local irreducible] repQ
set_option maxRecDepth 20000 in
theorem wr45_G (s : ByteArray) (alone : Bool) (hs : s.size ≤ 1024) : DPure Tryz.prog 45 [strV s, bl alone] (strV (wrB s alone)) := by
  have hr := repQ_size s
  have hany := any77_G s (by omega)
  rw [any_spc] at hany
  refine DFun.body Tryz.func45 rfl (by kernel_rfl) ?_
  repeat' (first | with_reducible rfl | ((conv => whnf); first | refine And.intro ?_ ?_ | (intro h; first | with_reducible exact tf_no h | with_reducible exact ft_no h | exact Bool.noConfusion h | with_reducible exact h | (have ht : true = true := h; clear ht h) | skip) | ((with_reducible refine DWl.mark ?_); repeat' (first | refine DWl.cons ?_ ?_ | exact DWl.nil | exact DW.same _ rfl | exact DW.ref _ _ _ rfl | exact DW.arr _ _ _ rfl | exact DW.sub _ _ _ _ rfl | exact DW.nilLst _ | refine DW.aggl ?_ | refine DW.tupl ?_ | refine DW.clol ?_ ?_ | refine DW.int ?_ | refine DW.bool ?_ | refine DW.str ?_)) | ((with_reducible refine SCall.mark ?_); first | refine SCall.data (hany) rfl rfl ?_ | refine SCall.scal (hany) rfl rfl ?_ | refine SCall.data (rep78_D s hs) rfl rfl ?_ | refine SCall.scal (rep78_D s hs) rfl rfl ?_) | ((with_reducible refine PCall.mark ?_); first | refine PCall.mk (hany) rfl rfl ?_ | refine PCall.mk (rep78_D s hs) rfl rfl ?_) | ((with_reducible refine GCall.mark ?_); first | refine GCall.data (fun _ => hany) rfl rfl ?_ | refine GCall.scal (fun _ => hany) rfl rfl ?_ | refine GCall.data (fun _ => rep78_D s hs) rfl rfl ?_ | refine GCall.scal (fun _ => rep78_D s hs) rfl rfl ?_) | ((with_reducible refine MCall.mark ?_); first | refine MCall.data (fun _ => hany) rfl rfl ?_ | refine MCall.plain (PCall.mk (hany) rfl rfl ?_) | refine MCall.data (fun _ => rep78_D s hs) rfl rfl ?_ | refine MCall.plain (PCall.mk (rep78_D s hs) rfl rfl ?_)) | ((with_reducible refine ECall.mark ?_); first | refine ECall.only ?_ (fun h => nomatch h) | refine ECall.only ?_ ?_) | ((with_reducible refine Drawn.mark ?_); first | refine Drawn.quiet (by kernel_rfl) ?_) | refine dcell_ok rfl ?_ | refine AppC.new ?_))
  all_goals first | (with_reducible refine enters_mark ?_; kernel_rfl) | (with_reducible refine boolT_mark ?_; kernel_rfl) | rfl | trivial | assumption | exact Nat.le_of_ble_eq_true rfl | (show entersB _ _ = true; kernel_rfl) | exact DW.same _ rfl | exact DW.ref _ _ _ rfl | exact DW.arr _ _ _ rfl | refine DW.int ?_ | refine dvb ?_ | refine dvi ?_ | exact OW.cells rfl rfl (DWl.same rfl) | skip
  all_goals repeat' (first | exact OW.cells rfl rfl (DWl.same rfl) | refine OW.cells rfl rfl ?_ | exact DW.nilArr _ rfl | refine DW.clol ?_ ?_ | refine DWl.cons ?_ ?_ | exact DWl.nil | exact DW.same _ rfl | exact DW.ref _ _ _ rfl | exact DW.arr _ _ _ rfl | refine DW.int ?_)
  all_goals try (simp_all; done)
  all_goals try (simp at *; omega)
  · show 1 + (repQ s).size ≤ _
    omega
  · rw [ByteArray.size_append]
    show 1 + (repQ s).size + 1 ≤ _
    omega
  · conv => whnf
    exact wr_yes h
  · conv => whnf
    exact wr_no h
end Go.Proofs.YtlchjjchgebfiaaGreatDoor

/- Write: a line: whatever bytes. -/
namespace Go.Proofs.YtlchjjchgebfiaaGreatDoor
open Go.RowKit Go.Dl
attribute [local irreducible] Tri SCall TSem ECall Drawn DFun QSem PSem PCall GCall MCall Round Weak dloadE OW DWl Tells IntKind.wrap Retold ESem
theorem li_sizeG {l : List ByteArray} {a : Bool} (hs : ∀ s ∈ l, s.size ≤ 1024) : ∀ {i : Nat}, i ≤ l.length → (lineI l a i).size ≤ i * 2051
  | 0, _ => Nat.le_refl _
  | i + 1, hi => by
    have ih := li_sizeG (a := a) hs (i := i) (by omega)
    have hm : l.getD i emB ∈ l := by rw [List.getD_eq_getElem?_getD, List.getElem?_eq_getElem (by omega)]; exact List.getElem_mem _
    have h1 := hs _ hm
    have h2 := wrB_size (l.getD i emB) a
    rw [lineI, ByteArray.size_append]
    have h3 : (bif decide (0 < (i : Int)) then lineI l a i ++ comB else lineI l a i).size ≤ (lineI l a i).size + 1 := by
      cases decide (0 < (i : Int)) with
      | true => show (lineI l a i ++ comB).size ≤ _
                rw [ByteArray.size_append]; exact Nat.le_refl _
      | false => show (lineI l a i).size ≤ _; omega
    omega
theorem ln_sizeG (acc : ByteArray) {l : List ByteArray} {a : Bool} {i : Nat} (hl : l.length ≤ 64) (hs : ∀ s ∈ l, s.size ≤ 1024) (hi : i ≤ l.length) (ha : acc.size ≤ 1000000000) : (acc ++ lineI l a i).size ≤ 1000131264 := by
  have := li_sizeG (a := a) hs hi
  rw [ByteArray.size_append]; omega
attribute [local irreducible] aB wrB lineI bytesD lineW
set_option maxRecDepth 20000 in
set_option maxHeartbeats 1000000 in
theorem lineF_G (t : Tb) (l : List ByteArray) (hl : l.length ≤ 64) (hs : ∀ s ∈ l, s.size ≤ 1024) {K : DV → Sto → Prop}
    (hK : K (.tup []) (.of [(0, ⟨25, 2, tbD t⟩), (1, ⟨65, 2, [.ref 1 0, .arr 2 (emB ++ lineW l (aloneB t)).size]⟩), (2, ⟨5, 1, bytesD (emB ++ lineW l (aloneB t))⟩)] 3)) :
    SCall Tryz.prog 43 [strs l, .ref 1 0, .ref 0 0] (.of [(0, ⟨25, 2, tbD t⟩), (1, ⟨65, 2, [.v (.pointer none), .v (.slice none 0 0)]⟩)] 2) K := by
  have hw := fun s (h : s ∈ l) => wr45_G s (aloneB t) (hs s h)
  refine SCall.retell (SCall.run Tryz.func43 rfl (Nat.le_of_ble_eq_true rfl) (by kernel_rfl) ?_)
  repeat' (first | with_reducible rfl | ((conv => whnf); first | refine And.intro ?_ ?_ | (intro h; first | with_reducible exact tf_no h | with_reducible exact ft_no h | exact Bool.noConfusion h | with_reducible exact h | (have ht : true = true := h; clear ht h) | skip) | ((with_reducible refine DWl.mark ?_); repeat' (first | refine DWl.cons ?_ ?_ | exact DWl.nil | exact DW.same _ rfl | exact DW.ref _ _ _ rfl | exact DW.arr _ _ _ rfl | exact DW.sub _ _ _ _ rfl | exact DW.nilLst _ | refine DW.aggl ?_ | refine DW.tupl ?_ | refine DW.clol ?_ ?_ | refine DW.int ?_ | refine DW.bool ?_ | refine DW.str ?_)) | ((with_reducible refine SCall.mark ?_); first | refine SCall.run Tryz.func44 rfl (Nat.le_of_ble_eq_true rfl) (by kernel_rfl) ?_ | refine SCall.run Tryz.func36 rfl (Nat.le_of_ble_eq_true rfl) (by kernel_rfl) ?_ | refine cc70_S rfl ?_ | refine cc70_U rfl ?_ | refine SCall.data (hw _ ?_) rfl rfl ?_ | refine SCall.scal (hw _ ?_) rfl rfl ?_) | ((with_reducible refine PCall.mark ?_); first | refine PCall.mk (hw _ ?_) rfl rfl ?_) | ((with_reducible refine GCall.mark ?_); first | refine GCall.data (fun _ => hw _ ?_) rfl rfl ?_ | refine GCall.scal (fun _ => hw _ ?_) rfl rfl ?_) | ((with_reducible refine MCall.mark ?_); first | refine MCall.data (fun _ => hw _ ?_) rfl rfl ?_ | refine MCall.plain (PCall.mk (hw _ ?_) rfl rfl ?_)) | ((with_reducible refine Tri.mark ?_); first | refine Tri.loop (lnSt t l (emB) (aloneB t) true 2) ((· ≤ l.length)) (fun i => l.length - i) (0) (by kernel_rfl) (Weak.list [(2, none)] [] ?_ ?_ ?_) ?_ ?_) | ((with_reducible refine ECall.mark ?_); first | refine ECall.only ?_ (fun h => nomatch h) | refine ECall.only ?_ ?_) | ((with_reducible refine Drawn.mark ?_); first | refine Drawn.quiet (by kernel_rfl) ?_) | refine app63 rfl rfl rfl rfl rfl ?_ ?_ ?_ | refine dloadE_map (emB) ?_ ?_ | refine dcell_ok rfl ?_ | refine AppC.new ?_))
  all_goals first | (with_reducible refine enters_mark ?_; kernel_rfl) | (with_reducible refine boolT_mark ?_; kernel_rfl) | rfl | trivial | assumption | exact Nat.le_of_ble_eq_true rfl | (show entersB _ _ = true; kernel_rfl) | exact DW.same _ rfl | exact DW.ref _ _ _ rfl | exact DW.arr _ _ _ rfl | refine DW.int ?_ | refine dvb ?_ | refine dvi ?_ | exact OW.cells rfl rfl (DWl.same rfl) | exact Nat.zero_le _ | omega | skip
  all_goals repeat' (first | refine OW.cells rfl rfl ?_ | exact DW.nilArr _ rfl | refine DWl.cons ?_ ?_ | exact DWl.nil | exact DW.same _ rfl | exact DW.ref _ _ _ rfl | exact DW.arr _ _ _ rfl | exact DW.sub _ _ _ _ rfl | exact DW.nilLst _ | refine DW.aggl ?_ | refine DW.tupl ?_ | refine DW.clol ?_ ?_)
  all_goals try ((conv => whnf); with_reducible first | refine Round.mark ?_ | refine Tells.mark ?_ | refine Retold.mark ?_)
  all_goals try first | (show (_ : Bool) = _; simp_all; done) | (show (_ : Int) < _; simp at *; omega) | (show (_ : Int) ≤ _; simp at *; omega) | (show (_ : Nat) < _; simp at *; omega) | (show (_ : Nat) ≤ _; simp at *; omega)
  · exact aT_dw
  · exact DW.nilArrE rfl (em_size _ _)
  · exact em_bytes _ _
  · exact ln_b1 _
  · rename_i i hi e0
    exact ln_b2 (ln_sizeG (emB) hl hs (i := i) hi (Nat.zero_le _))
  · rename_i i hi e0
    exact ln_b3 (ln_sizeG (emB) hl hs (i := i) hi (Nat.zero_le _))
  · rename_i i hi e0
    exact mem_at (lt_of_test e0)
  · exact ln_l1 _
  · rename_i i hi e0
    exact ln_b4 (ln_sizeG (emB) hl hs (i := i) hi (Nat.zero_le _)) (hs _ (mem_at (lt_of_test e0)))
  · rename_i i hi e0
    have hlt := lt_of_test e0
    refine Round.go (· + 1) hlt (by show l.length - (i + 1) < l.length - i; omega) (Weak.list [(2, some 5)] [] (by kernel_rfl) ?_ ?_)
    · repeat' (first | exact wsucc hlt (by omega) | exact DWl.eq (ln_yes h) (bytesD_all _) | exact ln_yesN h | exact aF_dw rfl rfl | exact DW.same _ rfl | exact DW.ref _ _ _ rfl | exact DW.arr _ _ _ rfl | exact OW.cells rfl rfl (DWl.same rfl) | refine OW.cells rfl rfl ?_ | refine DWl.cons ?_ ?_ | exact DWl.nil | exact DW.nilArr _ rfl | exact DW.nilLst _ | refine DW.clol ?_ ?_ | refine DW.aggl ?_ | refine DW.tupl ?_ | refine DW.int ?_ | refine DW.bool ?_ | refine DW.str ?_ | refine DW.arrE rfl ?_ | ((conv => whnf); first | refine And.intro ?_ ?_ | trivial))
    · repeat' (first | exact wsucc hlt (by omega) | exact DWl.eq (ln_yes h) (bytesD_all _) | exact ln_yesN h | exact aF_dw rfl rfl | exact DW.same _ rfl | exact DW.ref _ _ _ rfl | exact DW.arr _ _ _ rfl | exact OW.cells rfl rfl (DWl.same rfl) | refine OW.cells rfl rfl ?_ | refine DWl.cons ?_ ?_ | exact DWl.nil | exact DW.nilArr _ rfl | exact DW.nilLst _ | refine DW.clol ?_ ?_ | refine DW.aggl ?_ | refine DW.tupl ?_ | refine DW.int ?_ | refine DW.bool ?_ | refine DW.str ?_ | refine DW.arrE rfl ?_ | ((conv => whnf); first | refine And.intro ?_ ?_ | trivial))
  · rename_i i hi e0
    exact mem_at (lt_of_test e0)
  · exact bytesD_len _
  · rename_i i hi e0
    exact ln_b5 (ln_sizeG (emB) hl hs (i := i) hi (Nat.zero_le _)) (hs _ (mem_at (lt_of_test e0)))
  · rename_i i hi e0
    have hlt := lt_of_test e0
    refine Round.go (· + 1) hlt (by show l.length - (i + 1) < l.length - i; omega) (Weak.list [(2, some 3)] [] (by kernel_rfl) ?_ ?_)
    · repeat' (first | exact wsucc hlt (by omega) | exact DWl.eq (ln_no h) (bytesD_all _) | exact ln_noN h | exact aF_dw rfl rfl | exact DW.same _ rfl | exact DW.ref _ _ _ rfl | exact DW.arr _ _ _ rfl | exact OW.cells rfl rfl (DWl.same rfl) | refine OW.cells rfl rfl ?_ | refine DWl.cons ?_ ?_ | exact DWl.nil | exact DW.nilArr _ rfl | exact DW.nilLst _ | refine DW.clol ?_ ?_ | refine DW.aggl ?_ | refine DW.tupl ?_ | refine DW.int ?_ | refine DW.bool ?_ | refine DW.str ?_ | refine DW.arrE rfl ?_ | ((conv => whnf); first | refine And.intro ?_ ?_ | trivial))
    · repeat' (first | exact wsucc hlt (by omega) | exact DWl.eq (ln_no h) (bytesD_all _) | exact ln_noN h | exact aF_dw rfl rfl | exact DW.same _ rfl | exact DW.ref _ _ _ rfl | exact DW.arr _ _ _ rfl | exact OW.cells rfl rfl (DWl.same rfl) | refine OW.cells rfl rfl ?_ | refine DWl.cons ?_ ?_ | exact DWl.nil | exact DW.nilArr _ rfl | exact DW.nilLst _ | refine DW.clol ?_ ?_ | refine DW.aggl ?_ | refine DW.tupl ?_ | refine DW.int ?_ | refine DW.bool ?_ | refine DW.str ?_ | refine DW.arrE rfl ?_ | ((conv => whnf); first | refine And.intro ?_ ?_ | trivial))
  · exact ln_b1 _
  · rename_i i hi
    exact ln_b2 (ln_sizeG (emB) hl hs (i := i) hi (Nat.zero_le _))
  · rename_i i hi
    exact ln_b3 (ln_sizeG (emB) hl hs (i := i) hi (Nat.zero_le _))
  · rename_i i hi
    have hi : i = l.length := by have := ge_of_test h; have : i ≤ l.length := hi; omega
    subst hi
    refine Retold.list [(2, some 4)] [] (.tup []) [(0, ⟨25, 2, tbD t⟩), (1, ⟨65, 2, [.ref 1 0, .arr 2 (emB ++ lineW l (aloneB t)).size]⟩), (2, ⟨5, 1, bytesD (emB ++ lineW l (aloneB t))⟩)] 3 (by kernel_rfl) ?_ ?_ hK
    · repeat' (first | exact DWl.eq (ln_end _ _ _) (bytesD_all _) | exact ln_endN _ _ _ | exact DW.same _ rfl | exact DW.ref _ _ _ rfl | exact DW.arr _ _ _ rfl | exact OW.cells rfl rfl (DWl.same rfl) | refine OW.cells rfl rfl ?_ | refine DWl.cons ?_ ?_ | exact DWl.nil | exact DW.nilArr _ rfl | exact DW.nilLst _ | refine DW.clol ?_ ?_ | refine DW.aggl ?_ | refine DW.tupl ?_ | refine DW.int ?_ | refine DW.bool ?_ | refine DW.str ?_ | refine DW.arrE rfl ?_ | ((conv => whnf); first | refine And.intro ?_ ?_ | trivial))
    · repeat' (first | exact DWl.eq (ln_end _ _ _) (bytesD_all _) | exact ln_endN _ _ _ | exact DW.same _ rfl | exact DW.ref _ _ _ rfl | exact DW.arr _ _ _ rfl | exact OW.cells rfl rfl (DWl.same rfl) | refine OW.cells rfl rfl ?_ | refine DWl.cons ?_ ?_ | exact DWl.nil | exact DW.nilArr _ rfl | exact DW.nilLst _ | refine DW.clol ?_ ?_ | refine DW.aggl ?_ | refine DW.tupl ?_ | refine DW.int ?_ | refine DW.bool ?_ | refine DW.str ?_ | refine DW.arrE rfl ?_ | ((conv => whnf); first | refine And.intro ?_ ?_ | trivial))
set_option maxRecDepth 20000 in
set_option maxHeartbeats 1000000 in
theorem lineU_G (t : Tb) (acc : ByteArray) (hacc : acc.size ≤ 1000000000) (l : List ByteArray) (hl : l.length ≤ 64) (hs : ∀ s ∈ l, s.size ≤ 1024) {K : DV → Sto → Prop}
    (hK : K (.tup []) (.of [(0, ⟨25, 2, tbD t⟩), (1, ⟨65, 2, [.ref 1 0, .arr 3 (acc ++ lineW l (aloneB t)).size]⟩), (3, ⟨5, 1, bytesD (acc ++ lineW l (aloneB t))⟩)] 4)) :
    SCall Tryz.prog 43 [strs l, .ref 1 0, .ref 0 0] (.of [(0, ⟨25, 2, tbD t⟩), (1, ⟨65, 2, [.ref 1 0, .arr 2 acc.size]⟩), (2, ⟨5, 1, bytesD acc⟩)] 3) K := by
  have hw := fun s (h : s ∈ l) => wr45_G s (aloneB t) (hs s h)
  refine SCall.retell (SCall.run Tryz.func43 rfl (Nat.le_of_ble_eq_true rfl) (by kernel_rfl) ?_)
  repeat' (first | with_reducible rfl | ((conv => whnf); first | refine And.intro ?_ ?_ | (intro h; first | with_reducible exact tf_no h | with_reducible exact ft_no h | exact Bool.noConfusion h | with_reducible exact h | (have ht : true = true := h; clear ht h) | skip) | ((with_reducible refine DWl.mark ?_); repeat' (first | refine DWl.cons ?_ ?_ | exact DWl.nil | exact DW.same _ rfl | exact DW.ref _ _ _ rfl | exact DW.arr _ _ _ rfl | exact DW.sub _ _ _ _ rfl | exact DW.nilLst _ | refine DW.aggl ?_ | refine DW.tupl ?_ | refine DW.clol ?_ ?_ | refine DW.int ?_ | refine DW.bool ?_ | refine DW.str ?_)) | ((with_reducible refine SCall.mark ?_); first | refine SCall.run Tryz.func44 rfl (Nat.le_of_ble_eq_true rfl) (by kernel_rfl) ?_ | refine SCall.run Tryz.func36 rfl (Nat.le_of_ble_eq_true rfl) (by kernel_rfl) ?_ | refine cc70_S rfl ?_ | refine cc70_U rfl ?_ | refine SCall.data (hw _ ?_) rfl rfl ?_ | refine SCall.scal (hw _ ?_) rfl rfl ?_) | ((with_reducible refine PCall.mark ?_); first | refine PCall.mk (hw _ ?_) rfl rfl ?_) | ((with_reducible refine GCall.mark ?_); first | refine GCall.data (fun _ => hw _ ?_) rfl rfl ?_ | refine GCall.scal (fun _ => hw _ ?_) rfl rfl ?_) | ((with_reducible refine MCall.mark ?_); first | refine MCall.data (fun _ => hw _ ?_) rfl rfl ?_ | refine MCall.plain (PCall.mk (hw _ ?_) rfl rfl ?_)) | ((with_reducible refine Tri.mark ?_); first | refine Tri.loop (lnSt t l (acc) (aloneB t) false 3) ((· ≤ l.length)) (fun i => l.length - i) (0) (by kernel_rfl) (Weak.list [(3, some 2)] [] ?_ ?_ ?_) ?_ ?_) | ((with_reducible refine ECall.mark ?_); first | refine ECall.only ?_ (fun h => nomatch h) | refine ECall.only ?_ ?_) | ((with_reducible refine Drawn.mark ?_); first | refine Drawn.quiet (by kernel_rfl) ?_) | refine app63 rfl rfl rfl rfl rfl ?_ ?_ ?_ | refine dloadE_map (emB) ?_ ?_ | refine dcell_ok rfl ?_ | refine AppC.new ?_))
  all_goals first | (with_reducible refine enters_mark ?_; kernel_rfl) | (with_reducible refine boolT_mark ?_; kernel_rfl) | rfl | trivial | assumption | exact Nat.le_of_ble_eq_true rfl | (show entersB _ _ = true; kernel_rfl) | exact DW.same _ rfl | exact DW.ref _ _ _ rfl | exact DW.arr _ _ _ rfl | refine DW.int ?_ | refine dvb ?_ | refine dvi ?_ | exact OW.cells rfl rfl (DWl.same rfl) | exact Nat.zero_le _ | omega | skip
  all_goals repeat' (first | refine OW.cells rfl rfl ?_ | exact DW.nilArr _ rfl | refine DWl.cons ?_ ?_ | exact DWl.nil | exact DW.same _ rfl | exact DW.ref _ _ _ rfl | exact DW.arr _ _ _ rfl | exact DW.sub _ _ _ _ rfl | exact DW.nilLst _ | refine DW.aggl ?_ | refine DW.tupl ?_ | refine DW.clol ?_ ?_)
  all_goals try ((conv => whnf); with_reducible first | refine Round.mark ?_ | refine Tells.mark ?_ | refine Retold.mark ?_)
  all_goals try first | (show (_ : Bool) = _; simp_all; done) | (show (_ : Int) < _; simp at *; omega) | (show (_ : Int) ≤ _; simp at *; omega) | (show (_ : Nat) < _; simp at *; omega) | (show (_ : Nat) ≤ _; simp at *; omega)
  · exact aF_dw rfl rfl
  · exact DW.arrE rfl (acc_size _ _ _)
  · exact DWl.eq (acc_bytes _ _ _) (bytesD_all _)
  · exact ln_b1 _
  · rename_i i hi e0
    exact ln_b2 (ln_sizeG (acc) hl hs (i := i) hi hacc)
  · rename_i i hi e0
    exact ln_b3 (ln_sizeG (acc) hl hs (i := i) hi hacc)
  · rename_i i hi e0
    exact mem_at (lt_of_test e0)
  · exact ln_l1 _
  · rename_i i hi e0
    exact ln_b4 (ln_sizeG (acc) hl hs (i := i) hi hacc) (hs _ (mem_at (lt_of_test e0)))
  · rename_i i hi e0
    have hlt := lt_of_test e0
    refine Round.go (· + 1) hlt (by show l.length - (i + 1) < l.length - i; omega) (Weak.list [(3, some 6)] [] (by kernel_rfl) ?_ ?_)
    · repeat' (first | exact wsucc hlt (by omega) | exact DWl.eq (ln_yes h) (bytesD_all _) | exact ln_yesN h | exact aF_dw rfl rfl | exact DW.same _ rfl | exact DW.ref _ _ _ rfl | exact DW.arr _ _ _ rfl | exact OW.cells rfl rfl (DWl.same rfl) | refine OW.cells rfl rfl ?_ | refine DWl.cons ?_ ?_ | exact DWl.nil | exact DW.nilArr _ rfl | exact DW.nilLst _ | refine DW.clol ?_ ?_ | refine DW.aggl ?_ | refine DW.tupl ?_ | refine DW.int ?_ | refine DW.bool ?_ | refine DW.str ?_ | refine DW.arrE rfl ?_ | ((conv => whnf); first | refine And.intro ?_ ?_ | trivial))
    · repeat' (first | exact wsucc hlt (by omega) | exact DWl.eq (ln_yes h) (bytesD_all _) | exact ln_yesN h | exact aF_dw rfl rfl | exact DW.same _ rfl | exact DW.ref _ _ _ rfl | exact DW.arr _ _ _ rfl | exact OW.cells rfl rfl (DWl.same rfl) | refine OW.cells rfl rfl ?_ | refine DWl.cons ?_ ?_ | exact DWl.nil | exact DW.nilArr _ rfl | exact DW.nilLst _ | refine DW.clol ?_ ?_ | refine DW.aggl ?_ | refine DW.tupl ?_ | refine DW.int ?_ | refine DW.bool ?_ | refine DW.str ?_ | refine DW.arrE rfl ?_ | ((conv => whnf); first | refine And.intro ?_ ?_ | trivial))
  · rename_i i hi e0
    exact mem_at (lt_of_test e0)
  · exact bytesD_len _
  · rename_i i hi e0
    exact ln_b5 (ln_sizeG (acc) hl hs (i := i) hi hacc) (hs _ (mem_at (lt_of_test e0)))
  · rename_i i hi e0
    have hlt := lt_of_test e0
    refine Round.go (· + 1) hlt (by show l.length - (i + 1) < l.length - i; omega) (Weak.list [(3, some 4)] [] (by kernel_rfl) ?_ ?_)
    · repeat' (first | exact wsucc hlt (by omega) | exact DWl.eq (ln_no h) (bytesD_all _) | exact ln_noN h | exact aF_dw rfl rfl | exact DW.same _ rfl | exact DW.ref _ _ _ rfl | exact DW.arr _ _ _ rfl | exact OW.cells rfl rfl (DWl.same rfl) | refine OW.cells rfl rfl ?_ | refine DWl.cons ?_ ?_ | exact DWl.nil | exact DW.nilArr _ rfl | exact DW.nilLst _ | refine DW.clol ?_ ?_ | refine DW.aggl ?_ | refine DW.tupl ?_ | refine DW.int ?_ | refine DW.bool ?_ | refine DW.str ?_ | refine DW.arrE rfl ?_ | ((conv => whnf); first | refine And.intro ?_ ?_ | trivial))
    · repeat' (first | exact wsucc hlt (by omega) | exact DWl.eq (ln_no h) (bytesD_all _) | exact ln_noN h | exact aF_dw rfl rfl | exact DW.same _ rfl | exact DW.ref _ _ _ rfl | exact DW.arr _ _ _ rfl | exact OW.cells rfl rfl (DWl.same rfl) | refine OW.cells rfl rfl ?_ | refine DWl.cons ?_ ?_ | exact DWl.nil | exact DW.nilArr _ rfl | exact DW.nilLst _ | refine DW.clol ?_ ?_ | refine DW.aggl ?_ | refine DW.tupl ?_ | refine DW.int ?_ | refine DW.bool ?_ | refine DW.str ?_ | refine DW.arrE rfl ?_ | ((conv => whnf); first | refine And.intro ?_ ?_ | trivial))
  · exact ln_b1 _
  · rename_i i hi
    exact ln_b2 (ln_sizeG (acc) hl hs (i := i) hi hacc)
  · rename_i i hi
    exact ln_b3 (ln_sizeG (acc) hl hs (i := i) hi hacc)
  · rename_i i hi
    have hi : i = l.length := by have := ge_of_test h; have : i ≤ l.length := hi; omega
    subst hi
    refine Retold.list [(3, some 5)] [] (.tup []) [(0, ⟨25, 2, tbD t⟩), (1, ⟨65, 2, [.ref 1 0, .arr 3 (acc ++ lineW l (aloneB t)).size]⟩), (3, ⟨5, 1, bytesD (acc ++ lineW l (aloneB t))⟩)] 4 (by kernel_rfl) ?_ ?_ hK
    · repeat' (first | exact DWl.eq (ln_end _ _ _) (bytesD_all _) | exact ln_endN _ _ _ | exact DW.same _ rfl | exact DW.ref _ _ _ rfl | exact DW.arr _ _ _ rfl | exact OW.cells rfl rfl (DWl.same rfl) | refine OW.cells rfl rfl ?_ | refine DWl.cons ?_ ?_ | exact DWl.nil | exact DW.nilArr _ rfl | exact DW.nilLst _ | refine DW.clol ?_ ?_ | refine DW.aggl ?_ | refine DW.tupl ?_ | refine DW.int ?_ | refine DW.bool ?_ | refine DW.str ?_ | refine DW.arrE rfl ?_ | ((conv => whnf); first | refine And.intro ?_ ?_ | trivial))
    · repeat' (first | exact DWl.eq (ln_end _ _ _) (bytesD_all _) | exact ln_endN _ _ _ | exact DW.same _ rfl | exact DW.ref _ _ _ rfl | exact DW.arr _ _ _ rfl | exact OW.cells rfl rfl (DWl.same rfl) | refine OW.cells rfl rfl ?_ | refine DWl.cons ?_ ?_ | exact DWl.nil | exact DW.nilArr _ rfl | exact DW.nilLst _ | refine DW.clol ?_ ?_ | refine DW.aggl ?_ | refine DW.tupl ?_ | refine DW.int ?_ | refine DW.bool ?_ | refine DW.str ?_ | refine DW.arrE rfl ?_ | ((conv => whnf); first | refine And.intro ?_ ?_ | trivial))
end Go.Proofs.YtlchjjchgebfiaaGreatDoor

/- Write: a table: whatever bytes. -/
namespace Go.Proofs.YtlchjjchgebfiaaGreatDoor
open Go.RowKit Go.Dl
attribute [local irreducible] Tri SCall TSem ECall Drawn DFun QSem PSem PCall GCall MCall Round Weak dloadE OW DWl Tells IntKind.wrap Retold ESem
/-- What is asked of a table, for Write: its rows are short, its cells are. -/
def WrG (t : Tb) : Prop := t.rows.length ≤ 4096 ∧ (∀ l, l = t.head ∨ l ∈ t.rows → l.length ≤ 64 ∧ ∀ s ∈ l, s.size ≤ 1024)
theorem lw_sizeG {l : List ByteArray} {a : Bool} (hl : l.length ≤ 64) (hs : ∀ s ∈ l, s.size ≤ 1024) : (lineW l a).size ≤ 131265 := by
  have := li_sizeG (a := a) hs (Nat.le_refl _)
  rw [lineW, ByteArray.size_append]
  have : nlB.size = 1 := rfl
  omega
theorem row_atG {t : Tb} (h : WrG t) {i : Nat} (hi : i < t.rows.length) : (t.rows.getD i []).length ≤ 64 ∧ ∀ s ∈ t.rows.getD i [], s.size ≤ 1024 :=
  h.2 _ (.inr (by rw [List.getD_eq_getElem?_getD, List.getElem?_eq_getElem hi]; exact List.getElem_mem hi))
theorem ti_sizeG {t : Tb} (h : WrG t) : ∀ {i : Nat}, i ≤ t.rows.length → (textI t i).size ≤ (i + 1) * 131265
  | 0, _ => by
    rw [textI, emB_app]
    have := h.2 _ (.inl rfl)
    have := lw_sizeG (a := aloneB t) this.1 this.2
    omega
  | i + 1, hi => by
    have ih := ti_sizeG h (i := i) (by omega)
    have := row_atG h (i := i) (by omega)
    have := lw_sizeG (a := aloneB t) this.1 this.2
    rw [textI, ByteArray.size_append]
    omega
attribute [local irreducible] textI lineW bytesD
set_option maxRecDepth 20000 in
set_option maxHeartbeats 1000000 in
theorem write14_G (t : Tb) (ht : WrG t) : DPure Tryz.prog 14 [tab t] (strV (textW t)) := by
  have hh := ht.2 _ (.inl rfl)
  refine DFun.data (DFun.body Tryz.func14 rfl (by kernel_rfl) ?_)
  repeat' (first | with_reducible rfl | ((conv => whnf); first | refine And.intro ?_ ?_ | (intro h; first | with_reducible exact tf_no h | with_reducible exact ft_no h | exact Bool.noConfusion h | with_reducible exact h | (have ht : true = true := h; clear ht h) | skip) | ((with_reducible refine DWl.mark ?_); repeat' (first | refine DWl.cons ?_ ?_ | exact DWl.nil | exact DW.same _ rfl | exact DW.ref _ _ _ rfl | exact DW.arr _ _ _ rfl | exact DW.sub _ _ _ _ rfl | exact DW.nilLst _ | refine DW.aggl ?_ | refine DW.tupl ?_ | refine DW.clol ?_ ?_ | refine DW.int ?_ | refine DW.bool ?_ | refine DW.str ?_)) | ((with_reducible refine SCall.mark ?_); first | refine SCall.tidy (nx' := 2) [(0, ⟨25, 2, tbD t⟩), (1, ⟨65, 2, [.v (.pointer none), .v (.slice none 0 0)]⟩)] rfl ⟨rfl, rfl, trivial⟩ (lineF_G t _ hh.1 hh.2 ?_) | refine lineU_G t _ ?_ _ ?_ ?_ ?_ | refine str39_S rfl rfl ?_ ?_ ?_) | ((with_reducible refine Tri.mark ?_); first | refine Tri.loop (wtSt t) ((· ≤ t.rows.length)) (fun i => t.rows.length - i) (0) (by kernel_rfl) (Weak.list [(0, some 0), (1, some 1), (2, some 2)] [] ?_ ?_ ?_) ?_ ?_) | ((with_reducible refine ECall.mark ?_); first | refine ECall.only ?_ (fun h => nomatch h) | refine ECall.only ?_ ?_) | ((with_reducible refine Drawn.mark ?_); first | refine Drawn.quiet (by kernel_rfl) ?_) | refine dloadE_map (([] : List ByteArray)) ?_ ?_ | refine dcell_ok rfl ?_ | refine AppC.new ?_))
  all_goals first | (with_reducible refine enters_mark ?_; kernel_rfl) | (with_reducible refine boolT_mark ?_; kernel_rfl) | rfl | trivial | assumption | exact Nat.le_of_ble_eq_true rfl | (show entersB _ _ = true; kernel_rfl) | exact DW.same _ rfl | exact DW.ref _ _ _ rfl | exact DW.arr _ _ _ rfl | refine DW.int ?_ | refine dvb ?_ | refine dvi ?_ | exact OW.cells rfl rfl (DWl.same rfl) | exact Nat.zero_le _ | omega | skip
  all_goals repeat' (first | refine OW.cells rfl rfl ?_ | exact DW.nilArr _ rfl | refine DWl.cons ?_ ?_ | exact DWl.nil | exact DW.same _ rfl | exact DW.ref _ _ _ rfl | exact DW.arr _ _ _ rfl | exact DW.sub _ _ _ _ rfl | exact DW.nilLst _ | refine DW.aggl ?_ | refine DW.tupl ?_ | refine DW.clol ?_ ?_)
  all_goals try ((conv => whnf); with_reducible first | refine Round.mark ?_ | refine Tells.mark ?_ | refine Retold.mark ?_)
  all_goals try first | (show (_ : Bool) = _; simp_all; done) | (show (_ : Int) < _; simp at *; omega) | (show (_ : Int) ≤ _; simp at *; omega) | (show (_ : Nat) < _; simp at *; omega) | (show (_ : Nat) ≤ _; simp at *; omega)
  · exact DW.arrE rfl (ti_zeroN t)
  · exact DWl.eq (ti_zero t) (bytesD_all _)
  · rename_i i hi
    have := ti_sizeG ht (i := i) hi
    have h1 := ht.1
    have h2 : i ≤ t.rows.length := hi
    omega
  · exact (row_atG ht (lt_of_test h)).1
  · rename_i i hi e0 s
    exact (row_atG ht (lt_of_test e0)).2 s h
  · rename_i i hi
    have hlt := lt_of_test h
    refine Round.go (· + 1) hlt (by show t.rows.length - (i + 1) < t.rows.length - i; omega) (Weak.list [(0, some 0), (1, some 1), (2, some 3)] [] (by kernel_rfl) ?_ ?_)
    · repeat' (first | exact wsucc hlt (by have := ht.1; omega) | exact DWl.eq (ti_next t i) (bytesD_all _) | exact ti_nextN t i | exact DW.same _ rfl | exact DW.ref _ _ _ rfl | exact DW.arr _ _ _ rfl | exact OW.cells rfl rfl (DWl.same rfl) | refine OW.cells rfl rfl ?_ | refine DWl.cons ?_ ?_ | exact DWl.nil | exact DW.nilArr _ rfl | exact DW.nilLst _ | refine DW.clol ?_ ?_ | refine DW.aggl ?_ | refine DW.tupl ?_ | refine DW.int ?_ | refine DW.bool ?_ | refine DW.str ?_ | refine DW.arrE rfl ?_ | ((conv => whnf); first | refine And.intro ?_ ?_ | trivial))
    · repeat' (first | exact wsucc hlt (by have := ht.1; omega) | exact DWl.eq (ti_next t i) (bytesD_all _) | exact ti_nextN t i | exact DW.same _ rfl | exact DW.ref _ _ _ rfl | exact DW.arr _ _ _ rfl | exact OW.cells rfl rfl (DWl.same rfl) | refine OW.cells rfl rfl ?_ | refine DWl.cons ?_ ?_ | exact DWl.nil | exact DW.nilArr _ rfl | exact DW.nilLst _ | refine DW.clol ?_ ?_ | refine DW.aggl ?_ | refine DW.tupl ?_ | refine DW.int ?_ | refine DW.bool ?_ | refine DW.str ?_ | refine DW.arrE rfl ?_ | ((conv => whnf); first | refine And.intro ?_ ?_ | trivial))
  · exact ti_pos t _
  · rename_i i hi
    have hi : i = t.rows.length := by have := ge_of_test h; have : i ≤ t.rows.length := hi; omega
    subst hi
    conv => whnf
    exact Tells.mk (DW.same _ rfl)
end Go.Proofs.YtlchjjchgebfiaaGreatDoor
