/-
  The data-level logic, part 24: maps that stay as they are, looked up; a row sorted in place.
-/
import Derived.Test.YtlchjjchgebfiaaGreatDoorDp23
import Derived.Sort.Grow
import Derived.Shelf.GgSortFunc.InsertionK

namespace Go.Dl
open Go Go.RowKit
theorem DPure.kit [Inhabited GlobS] {P : Program} {f : FuncId} {args : List Value} {r : DV} (h : ∀ w : World, Gok w → Calls P f args.toArray w fun e w' => ∃ v, e = .returned v ∧ RowKit.Below w.heap.size w w' ∧ ∀ F : Nat → Prop, (∀ b, w.heap.size ≤ b → F b) → RV w' F (fun _ => none) r v)  (hdr : Drs = false := by rfl) :
    DPure P f (args.map .v) r := fun w F vals hg hF hx => by
  have e : vals = args := by
    apply List.ext_getElem?
    intro i
    have hl : args.length = vals.length := by simpa using hx.1
    by_cases hi : i < args.length
    · have h1 : (args.map DV.v)[i]? = some (.v args[i]) := by simp [hi]
      rw [List.getElem?_eq_getElem hi, List.getElem?_eq_getElem (by omega), rv_v (hx.2 i _ _ h1 (List.getElem?_eq_getElem (by omega)))]
    · rw [List.getElem?_eq_none (by omega), List.getElem?_eq_none (by omega)]
  subst e
  refine (h w hg).mono fun e w' ⟨v, he, hb, hr⟩ => ?_
  obtain ⟨k1, _⟩ := (SRel.empty w F hg hF).below' (.of hb fun e => by rw [hdr] at e; cases e)
  refine ⟨v, r, _, _, he, rfl, k1, (hr F hF).mono (fun _ _ h => h) fun b hb hFb => ⟨⟨hFb, ?_⟩, rfl⟩⟩
  rcases Nat.lt_or_ge b w.heap.size with hlt | hge
  · exact .inl hlt
  · exact .inr ⟨hge, fun i c hi => by cases hi⟩
def rowD {α : Type} (enc : α → List Value) (l : List α) : List DV := (l.map fun x => (enc x).map DV.v).flatten
theorem rowD_len {α : Type} (enc : α → List Value) {k : Nat} (hk : ∀ x, (enc x).length = k) (l : List α) : (rowD enc l).length = l.length * k := by
  induction l with
  | nil => simp [rowD]
  | cons x l ih => simp only [rowD, List.map_cons, List.flatten_cons, List.length_append, List.length_map, List.length_cons] at *; rw [ih, hk, Nat.succ_mul]; omega
theorem rowD_get {α : Type} [Inhabited α] (enc : α → List Value) {k : Nat} (hk : ∀ x, (enc x).length = k) (l : List α) (t : Nat) (ht : t < l.length * k) : (rowD enc l)[t]? = some (.v ((Sort.flatK enc k l.toArray)[t]!)) := by
  rw [Sort.get_flatK _ _ _ _ (by simpa using ht)]
  have k0 : 0 < k := by rcases Nat.eq_zero_or_pos k with h | h; · subst h; simp at ht
                        · exact h
  induction l generalizing t with
  | nil => simp at ht
  | cons x l ih =>
    simp only [rowD, List.map_cons, List.flatten_cons]
    rcases Nat.lt_or_ge t k with h | h
    · rw [List.getElem?_append_left (by simp [hk, h]), Nat.div_eq_of_lt h, Nat.mod_eq_of_lt h]
      have : t < (enc x).length := by rw [hk]; exact h
      simp [this]
    · rw [List.getElem?_append_right (by simp [hk, h])]
      have h1 : t - ((enc x).map DV.v).length = t - k := by simp [hk]
      rw [h1]
      have := ih (t - k) (by simp [Nat.succ_mul] at ht; omega)
      simp only [rowD] at this
      rw [this]
      have h2 : t / k = (t - k) / k + 1 := by rw [← Nat.add_div_right _ k0, Nat.sub_add_cancel h]
      have h3 : t % k = (t - k) % k := by rw [Nat.mod_eq_sub_mod h]
      rw [h2, h3]
      simp
theorem SCall.sortedG [Inhabited GlobS] {α : Type} [Inhabited α] {P : Program} {f g : FuncId} {enc : α → List Value} {k : Nat} (hk : ∀ x, (enc x).length = k) (h0 : 0 < k) (h1 : ∀ x, ∀ v ∈ enc x, v.oneCell' = true) {s : Sto} {id len : Nat} {o : DObj} {l l' : List α} {K : DV → Sto → Prop}
    (hob : s.ob id = some o) (_hsz : o.sz = k) (hc : o.cells = rowD enc l) (_hn : len = l.length) (hne : l ≠ []) (hl : l'.length = l.length)
    (hcon : ∀ (blk cap : Nat) (w : World), Sort.HoldsK enc k w blk 0 l.toArray → blk < w.heap.size → (∀ W, BelowD blk w W → Gok W) → Calls P f #[.slice (some ⟨blk, 0, none⟩) len cap, .func (.func g) #[] #[]] w fun e w' => e = .returned (.tuple #[]) ∧ ∃ n os, w' = Go.Proofs.sortWorldK enc k w blk 0 n l'.toArray os)
    (hK : K (.tup []) ⟨upd s.ob id (some { o with cells := rowD enc l' }), s.nx⟩) (hm : Nat.beq o.elem MAPT = false := by rfl) : SCall P f [.arr id len, .clo (.func g) [] []] s K := by
  intro w0 F0 β w vals hs hx
  obtain ⟨hl2, hx⟩ := hx
  match vals, hl2 with
  | [x, y], _ =>
  have hx0 := hx 0 _ _ rfl rfl
  have hx1 := hx 1 _ _ rfl rfl
  obtain ⟨xs, ys, rfl, hl3, hl4, _⟩ := rv_clo hx1
  have e1 : xs = [] := List.length_eq_zero_iff.1 hl3.symm
  have e2 : ys = [] := List.length_eq_zero_iff.1 hl4.symm
  subst e1 e2
  have hpos : 0 < l.length := List.length_pos_iff.2 hne
  have hcl : o.cells.length = l.length * k := by rw [hc, rowD_len enc hk]
  have hpk : 0 < l.length * k := Nat.mul_pos hpos h0
  rcases rv_arr hx0 with ⟨b, c, hb, hle, rfl⟩ | ⟨hb, hz, rfl⟩
  · rcases hs.obs id o hob with g0 | ⟨b', c', cur, g1, g2, g3, g4, g5, g6, g7⟩
    · rw [g0.1] at hb; cases hb
    rw [g1] at hb
    simp only [Option.some.injEq, Prod.mk.injEq] at hb
    obtain ⟨rfl, rfl⟩ := hb
    rw [blk_cells hm] at g3
    have hblt := (Array.getElem?_eq_some_iff.1 g3).1
    have hold : Sort.HoldsK enc k w b' 0 l.toArray := fun j hj => by
      have hj : j < l.length * k := by simpa using hj
      have h2 := rowD_get enc hk l j hj
      rw [← hc] at h2
      obtain ⟨x, hx1, hx2⟩ := g7 j _ h2
      have := rv_v hx2
      subst this
      refine ⟨?_, ?_⟩
      · simp [World.cell?, g3, hx1]
      · simp [World.frozen?, g3]
    refine (hcon b' c' w hold hblt fun W hW => Gok.mono (hs.below.trans (hW.mono g2)) hs.gl).mono fun e w' ⟨he, n, os, hw⟩ => ?_
    generalize hw1 : Sort.putRowK enc k (Sort.ahead w n) b' 0 l'.toArray = w1 at hw
    have hfl : (Sort.flatK enc k l'.toArray).size = l.length * k := by simp [hl]
    have hp1 : w1.heap = w.heap.modify b' (Sort.onCells (Sort.putCells (fun v : Value => v) 0 (Sort.flatK enc k l'.toArray))) := by rw [← hw1]; rfl
    have hoth : ∀ i, i ≠ b' → w1.heap[i]? = w.heap[i]? := fun i hi => by rw [hp1, Array.getElem?_modify, if_neg (fun e => hi e.symm)]
    have hnew : w1.heap[b']? = some (.cells (Sort.putCells (fun v : Value => v) 0 (Sort.flatK enc k l'.toArray) cur) o.elem (0, 0)) := by rw [hp1, Array.getElem?_modify, if_pos rfl, g3]; rfl
    have hbel : BelowD b' w w1 := by
      refine ⟨by rw [← hw1]; rfl, by rw [← hw1]; rfl, by rw [← hw1]; rfl, by rw [hp1]; simp, fun i hi => hoth i (by omega), fun _ => by rw [← hw1]; exact Nat.le_add_right _ _⟩
    have hcs : (Sort.putCells (fun v : Value => v) 0 (Sort.flatK enc k l'.toArray) cur).size = cur.size := by simp [Sort.putCells]
    have hrl : (rowD enc l').length = l.length * k := by rw [rowD_len enc hk, hl]
    obtain ⟨k1, k2⟩ := hs.rewrite id o hob b' c' g1 w1 _ (rowD enc l') hbel hoth (by rw [hnew, blk_cells hm]) (by rw [hcs]; exact g4) (by rw [hcs, hrl, ← hcl]; exact g6) (fun j d hj => by
      have hjl : j < l.length * k := by rw [← hrl]; exact (List.getElem?_eq_some_iff.1 hj).1
      have h2 := rowD_get enc hk l' j (by rw [hl]; exact hjl)
      rw [h2] at hj
      cases hj
      refine ⟨_, ?_, .data (.v _ ?_)⟩
      · have : j < cur.size := by rw [hcl] at g6; omega
        simp only [Sort.putCells, Array.getElem?_mapIdx, Array.getElem?_eq_getElem this, Option.map_some]
        rw [if_pos ⟨Nat.zero_le _, by omega⟩]
        rfl
      · rw [Sort.get_flatK _ _ _ _ (by simpa [hl] using hjl)]
        refine h1 (l'.toArray[j / k]!) _ ?_
        have hm : j % k < (enc l'.toArray[j / k]!).length := by rw [hk]; exact Nat.mod_lt _ h0
        rw [getElem!_pos (enc l'.toArray[j / k]!) (j % k) hm]
        exact List.getElem_mem hm)
    have hw' : w' = Sort.grow w1 os := by rw [hw, ← hw1]; rfl
    have hb2 : BelowD w1.heap.size w1 w' := by
      rw [hw']
      refine ⟨rfl, rfl, rfl, by simp [Sort.grow], fun i hi => ?_, fun _ => Nat.le_refl _⟩
      simp [Sort.grow, Array.getElem?_append, hi]
    obtain ⟨k3, k4⟩ := k1.below' hb2
    exact ⟨_, _, _, β, he, hK, k3, (k2 _).trans (k4 _), Nat.le_refl _, .tup [] [] rfl (fun i d x h => by simp at h)⟩
  · rcases hs.obs id o hob with g0 | ⟨b', c', cur, g1, _⟩
    · rw [g0.2] at hcl; simp at hcl; omega
    · rw [g1] at hb; cases hb
end Go.Dl


