/-
  The data-level logic, part 33: rows told anew, their last element by itself.
-/
import Derived.Test.YtlchjjchgebfiaaGreatDoorDp32

namespace Go.Dl
open Go Go.RowKit
variable {ρ : Nat → Option Nat} {s : Sto} {pub : Nat → Prop}
theorem DWl.snoc {ds es : List DV} {d e : DV} (h : DWl ρ s pub ds es) (k : DW ρ s pub d e) : DWl ρ s pub (ds ++ [d]) (es ++ [e]) := by
  refine ⟨by rw [List.length_append, List.length_append, h.1]; rfl, fun i x y hx hy => ?_⟩
  rcases Nat.lt_or_ge i ds.length with hi | hi
  · rw [List.getElem?_append_left hi] at hx
    rw [List.getElem?_append_left (by rw [← h.1]; exact hi)] at hy
    exact h.2 i x y hx hy
  · rw [List.getElem?_append_right hi] at hx
    rw [List.getElem?_append_right (by rw [← h.1]; exact hi)] at hy
    rw [← h.1] at hy
    match e1 : i - ds.length with
    | 0 =>
      rw [e1] at hx hy
      cases hx; cases hy
      exact k
    | n + 1 => rw [e1] at hx; cases hx
theorem DWl.snocE {X Y : List DV} {d e : DV} (h : X ++ [e] = Y) (hall : X.all noId1 = true) (k : DW ρ s pub d e) : DWl ρ s pub (X ++ [d]) Y := by
  rw [← h]; exact DWl.snoc (DWl.same hall) k
theorem DW.pubR {id off sz : Nat} {o : DObj} {cs : List DV} (hob : s.ob id = some o) (hp : pub id) (hc : o.cells = cs) (ha : cs.all isData1 = true) (hl : o.sz = sz) (hn : cs.length = sz) (hz : Nat.ble 1 sz = true) : DW ρ s pub (.ref id off) (.lref sz [cs] 0 off) := by
  subst hl hc
  exact .lref id off o hob hp ha hn.symm (Nat.le_of_ble_eq_true hz)
end Go.Dl


