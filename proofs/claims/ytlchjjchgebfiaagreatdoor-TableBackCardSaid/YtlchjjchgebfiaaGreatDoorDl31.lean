/-
  The data-level logic, part 31: slices of slices, given up as data; a row's element that is known.
-/
import Derived.Test.YtlchjjchgebfiaaGreatDoorDl30
namespace Go.Dl
open Go Go.RowKit
theorem rd_of_rv {w : World} {F : Nat → Prop} {β : Beta} {e : DV} {x : Value} (he : isData1 e = true) (h : RV w F β e x) : RD w F e x := by
  cases h with
  | data h => exact h
  | _ => cases he
/-- A function whose result is an owned slice of one-cell elements, each of which is data or may be told as data (a slice of slices). -/
theorem DFun.data2 [Inhabited GlobS] {P : Program} {f : FuncId} {args : List DV} {es : List DV}
    (h : DFun P f args fun r s => ∃ id o, r = .arr id es.length ∧ s.ob id = some o ∧ o.sz = 1 ∧ es.length ≤ o.cells.length ∧ es.all isData1 = true ∧
      ∀ (j : Nat) d e, es[j]? = some e → o.cells[j]? = some d → DW (fun i => some (i + s.nx)) s (fun _ => True) d e) :
    DPure P f args (.lst 1 (es.map fun e => [e])) := fun w F vals hg hF hx =>
  (h w F vals hg hF hx).mono fun e w' ⟨v, r, s', β', he, ⟨id, o, hr, hob, hsz, hlen, hall, hdw⟩, hs, hv⟩ => by
    have hsw : SW (fun i => some (i + s'.nx)) s' (.of [] 0) 0 (fun _ => True) :=
      ⟨fun i o h => by simp [Sto.of] at h, fun i j k h => by simp [Sto.of] at h, fun i hi => by omega, fun i k h => by simp [Sto.of] at h, fun i k h1 h2 => by cases h1; omega, fun i h => by cases h⟩
    obtain ⟨k1, k2, k3⟩ := hsw.step hs
    refine ⟨v, .lst 1 (es.map fun e => [e]), _, _, he, rfl, k1, .data ?_⟩
    subst hr
    rcases rv_arr hv with ⟨b, c, hb, hl, rfl⟩ | ⟨hb, h0, rfl⟩
    · rcases hs.obs id o hob with g | ⟨b', c', cur, g1, g2, g3, g4, g5, g6, g7⟩
      · rw [g.1] at hb; cases hb
      rw [g1] at hb
      simp only [Option.some.injEq, Prod.mk.injEq] at hb
      obtain ⟨rfl, rfl⟩ := hb
      have hel : (es.map fun e => [e]).length = es.length := List.length_map _
      have hFb : F b' := hs.own id b' c' (by rw [hob]; rfl) g1
      have key : RD w' (Fr w F (.of [] 0) (reβ (fun i => some (i + s'.nx)) β' (Sto.of [] 0).nx)) (.lst 1 (es.map fun e => [e])) (.slice (some ⟨b', 0, none⟩) (es.map fun e => [e]).length c') := by
        refine .lst 1 _ _ b' 0 c' (fun i _ => (cur[i]?).getD undef) (fun _ => rfl) (fun h => by cases h) (by rw [hel]; exact hl) g5 (fun i cs hi => ?_) (fun i cs j d hi hj => ?_) (fun i cs j d hi hj => ?_)
        · rw [List.getElem?_map, Option.map_eq_some_iff] at hi
          obtain ⟨x, _, rfl⟩ := hi
          rfl
        all_goals
          rw [List.getElem?_map, Option.map_eq_some_iff] at hi
          obtain ⟨x, hx, rfl⟩ := hi
          have hil : i < es.length := (List.getElem?_eq_some_iff.1 hx).1
          have hj0 : j = 0 := by
            rcases Nat.eq_zero_or_pos j with h | h
            · exact h
            · rw [List.getElem?_eq_none (by simp; omega)] at hj; cases hj
          subst hj0
          simp only [List.getElem?_cons_zero, Option.some.injEq] at hj
          subst hj
          obtain ⟨y, hy, hrv⟩ := g7 i _ (List.getElem?_eq_getElem (Nat.lt_of_lt_of_le hil hlen))
        · refine ⟨?_, hFb, ?_⟩
          · simp [World.cell?, g3, hy]
          · rcases Nat.lt_or_ge b' w.heap.size with hlt | hge
            · exact .inl hlt
            · exact .inr ⟨hge, fun i c hi => by cases hi⟩
        · rw [hy]
          simp only [Option.getD_some]
          exact rd_of_rv (List.all_eq_true.1 hall _ (List.mem_of_getElem? hx)) (k3 (hdw i _ _ hx (List.getElem?_eq_getElem (Nat.lt_of_lt_of_le hil hlen))) hrv)
      rw [hel] at key
      exact key
    · have : es = [] := List.eq_nil_of_length_eq_zero h0
      subst this
      exact .lst 1 [] none 0 0 0 (fun _ _ => undef) (fun h => (h rfl).elim) (fun _ => rfl) (by simp) (by simp [maxLen]) (fun i cs h => by simp at h) (fun i cs j d h => by simp at h) (fun i cs j d h => by simp at h)
/-- An element of a row, by what it is known to be. -/
theorem dloadE_is {α : Type} {P : Program} {t : TypeId} {ls : List α} {f : α → List DV} {i off : Nat} {g : Bool} {K : DV → Prop} {d x : α} (hx : ls.getD i d = x) (hi : g = true → i < ls.length) (h : dload P t (f x) off g K) : dloadE P t (ls.map f) i off g K := by
  subst hx; exact dloadE_map d hi h
end Go.Dl
