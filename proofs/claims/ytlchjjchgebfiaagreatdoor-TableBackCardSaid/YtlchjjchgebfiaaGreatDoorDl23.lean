/-
  The data-level logic, part 23: calls with a slice that may be nil.
-/
import Derived.Test.YtlchjjchgebfiaaGreatDoorDl22
namespace Go.Dl
open Go Go.RowKit

theorem enters_mark {P : Program} {f : FuncId} (h : entersB P f = true) : entersB P f = true := h
theorem boolT_mark {P : Program} {t : TypeId} (h : isBoolT P t = true) : isBoolT P t = true := h

theorem SCall.nilSplit [Inhabited GlobS] {P : Program} {f : FuncId} {args : List DV} {s : Sto} {K : DV → Sto → Prop} (i : Nat) {sz : Nat} {es : List (List DV)} (ha : args[i]? = some (.lst sz es))
    (h1 : es = [] → SCall P f (args.set i (.v (.slice none 0 0))) s K) (h2 : es = [] → ∀ a c, SCall P f (args.set i (.v (.slice (some a) 0 c))) s K) (h3 : es ≠ [] → SCall P f args s K) : SCall P f args s K := fun w0 F0 β w vals hs hx => by
  have hi : i < args.length := (List.getElem?_eq_some_iff.1 ha).1
  have hi' : i < vals.length := by rw [← hx.1]; exact hi
  have key : ∀ v : Value, v.oneCell' = true → vals[i] = v → Pw w (Fr w0 F0 s β) β (args.set i (.v v)) vals := fun v hv e => by
    refine ⟨by simpa using hx.1, fun j d y hj hy => ?_⟩
    by_cases h : i = j
    · subst h
      rw [List.getElem?_set_self hi] at hj
      rw [List.getElem?_eq_getElem hi'] at hy
      cases hj; cases hy
      rw [e]; exact .data (.v _ hv)
    · rw [List.getElem?_set_ne h] at hj
      exact hx.2 j d y hj hy
  by_cases he : es = []
  · cases hx.2 i _ _ ha (List.getElem?_eq_getElem hi') with
    | data h =>
      generalize hy : vals[i] = y at h
      cases h with
      | lst _ _ a b off cap g h0 hn hc hm hsz hcell hd =>
        subst he
        cases a with
        | none =>
          have : cap = 0 := hn rfl
          subst this
          exact h1 rfl w0 F0 β w vals hs (key _ rfl hy)
        | some a => exact h2 rfl a cap w0 F0 β w vals hs (key _ rfl hy)
  · exact h3 he w0 F0 β w vals hs hx

/-- An owned slice, given up, whose block's known cells go on behind it. -/
theorem DW.pubX {ρ : Nat → Option Nat} {s : Sto} {pub : Nat → Prop} {id len sz : Nat} {o : DObj} {es : List (List DV)} (rest : List DV) (hob : s.ob id = some o) (hsz : o.sz = sz) (hz : 0 < sz) (hp : pub id) (hl : es.length = len) (hr : ∀ r ∈ es, r.length = sz ∧ r.all isData1 = true)
    (hx : rest.all isData1 = true) (hc : o.cells = es.flatten ++ rest) : DW ρ s pub (.arr id len) (.lst sz es) := by
  subst hsz hl
  have h1 : chunks o.sz es.length o.cells = es := by rw [hc]; exact chunks_flatten _ _ (fun r h => (hr r h).1) _
  have h2 : es.length * o.sz = es.flatten.length := by
    clear h1 hc
    induction es with
    | nil => simp
    | cons a l ih =>
      have ha := (hr a (List.mem_cons_self ..)).1
      have := ih (fun r h => hr r (List.mem_cons_of_mem _ h))
      rw [List.length_cons, List.flatten_cons, List.length_append, Nat.succ_mul, this, ha, Nat.add_comm]
  have h3 : DW ρ s pub (.arr id es.length) (.lst o.sz (chunks o.sz es.length o.cells)) := .pub id es.length o hob hp (by rw [hc, h2, List.length_append]; omega) (by
    rw [hc, List.all_append, hx, Bool.and_true, List.all_eq_true]
    intro d hd
    obtain ⟨r, hr1, hr2⟩ := List.mem_flatten.1 hd
    exact List.all_eq_true.1 (hr r hr1).2 d hr2) hz
  rw [h1] at h3
  exact h3
end Go.Dl
