/-
  The data-level logic, part 19: what data of a shape look like.
-/
import Derived.Test.YtlchjjchgebfiaaGreatDoorDp18

namespace Go.Dl
open Go Go.RowKit
section
variable {P : Program} {t : TypeId} {ds : List DV} {d : DV}
theorem Shp.int_inv {k : IntKind} (hu : P.underlying t = some (.int k)) (h : Shp P t ds) : ∃ x, ds = [.v (.int k x)] ∧ (Lit.int k x).wf = true := by
  cases h with
  | bool h => rw [hu] at h; cases h
  | int h x hw => rw [hu] at h; cases h; exact ⟨x, rfl, hw⟩
  | str h => rw [hu] at h; cases h
  | slice h => rw [hu] at h; cases h
  | struct h => rw [hu] at h; cases h
theorem Shp.str_inv (hu : P.underlying t = some .string) (h : Shp P t ds) : ∃ s, ds = [.v (.string s)] ∧ s.size ≤ reachBytes := by
  cases h with
  | bool h b => rw [hu] at h; cases h
  | int h => rw [hu] at h; cases h
  | str h s hs => exact ⟨s, rfl, hs⟩
  | slice h => rw [hu] at h; cases h
  | struct h => rw [hu] at h; cases h
theorem Shp.slice_inv {e : TypeId} {α : Type} {f : α → List DV} {p : α → Prop} (hu : P.underlying t = some (.slice e)) (hrow : ∀ r, Shp P e r → ∃ a, r = f a ∧ p a) (h : Shp P t ds) :
    ∃ l : List α, ds = [.lst (P.cellsOf e) (l.map f)] ∧ l.length * P.bytesOf e ≤ reachBytes ∧ ∀ a, a ∈ l → p a := by
  cases h with
  | bool h b => rw [hu] at h; cases h
  | int h => rw [hu] at h; cases h
  | str h => rw [hu] at h; cases h
  | slice h es hb hr =>
    rw [hu] at h; cases h
    have : ∃ l : List α, es = l.map f ∧ ∀ a, a ∈ l → p a := by
      clear hb
      induction es with
      | nil => exact ⟨[], rfl, fun a h => by cases h⟩
      | cons r es ih =>
        obtain ⟨l, h1, h2⟩ := ih fun r' h' => hr r' (List.mem_cons_of_mem _ h')
        obtain ⟨a, h3, h4⟩ := hrow r (hr r (List.mem_cons_self ..))
        refine ⟨a :: l, by rw [List.map_cons, ← h3, ← h1], fun b hb => ?_⟩
        rcases List.mem_cons.1 hb with rfl | hb
        · exact h4
        · exact h2 b hb
    obtain ⟨l, rfl, h2⟩ := this
    exact ⟨l, rfl, by simpa using hb, h2⟩
  | struct h => rw [hu] at h; cases h
def fldTab (P : Program) (t : TypeId) : Option (List (TypeId × Nat × Nat)) :=
  match P.underlying t with
  | some (.struct fs) => some (fs.toList.map fun f => (f.type, f.offset, P.cellsOf f.type))
  | _ => none
def parts (P : Program) (ds : List DV) : List (TypeId × Nat × Nat) → Prop
  | [] => True
  | p :: ps => Shp P p.1 ((ds.drop p.2.1).take p.2.2) ∧ parts P ds ps
theorem Shp.struct_inv {l : List (TypeId × Nat × Nat)} (hu : fldTab P t = some l) (h : Shp P t ds) : ds.length = P.cellsOf t ∧ parts P ds l := by
  unfold fldTab at hu
  split at hu
  · rename_i fs hfs
    cases hu
    cases h with
    | bool h b => rw [hfs] at h; cases h
    | int h => rw [hfs] at h; cases h
    | str h => rw [hfs] at h; cases h
    | slice h => rw [hfs] at h; cases h
    | struct h ds hl hf =>
      rw [hfs] at h; cases h
      refine ⟨hl, ?_⟩
      generalize fs.toList = fl at hf
      induction fl with
      | nil => trivial
      | cons f fl ih => exact ⟨hf f (List.mem_cons_self ..), ih fun f' h' => hf f' (List.mem_cons_of_mem _ h')⟩
  · cases hu
def isStructT (P : Program) (t : TypeId) : Bool := match P.underlying t with | some (.struct _) => true | _ => false
theorem ShpV.one (hs : isStructT P t = false) (h : ShpV P t d) : Shp P t [d] := by
  unfold ShpV at h
  unfold isStructT at hs
  split at h
  · rename_i fs hu; rw [hu] at hs; cases hs
  · exact h
theorem ShpV.agg (hs : isStructT P t = true) (h : ShpV P t d) : ∃ ds, d = .agg ds ∧ Shp P t ds := by
  unfold ShpV at h
  unfold isStructT at hs
  split at h
  · exact h
  · rename_i hn
    split at hs
    · rename_i fs hu; exact absurd hu (hn fs)
    · cases hs
theorem ShpV.int_inv {k : IntKind} (hu : P.underlying t = some (.int k)) (h : ShpV P t d) : ∃ x, d = .v (.int k x) ∧ (Lit.int k x).wf = true := by
  obtain ⟨x, h1, h2⟩ := Shp.int_inv hu (ShpV.one (by unfold isStructT; rw [hu]) h)
  cases h1; exact ⟨x, rfl, h2⟩
theorem ShpV.slice_inv {e : TypeId} {α : Type} {f : α → List DV} {p : α → Prop} (hu : P.underlying t = some (.slice e)) (hrow : ∀ r, Shp P e r → ∃ a, r = f a ∧ p a) (h : ShpV P t d) :
    ∃ l : List α, d = .lst (P.cellsOf e) (l.map f) ∧ l.length * P.bytesOf e ≤ reachBytes ∧ ∀ a, a ∈ l → p a := by
  obtain ⟨l, h1, h2⟩ := Shp.slice_inv hu hrow (ShpV.one (by unfold isStructT; rw [hu]) h)
  cases h1; exact ⟨l, rfl, h2⟩
end
theorem shpAll_nil {P : Program} {l : List DV} (h : ShpAll P [] l) : l = [] := by
  cases l with
  | nil => rfl
  | cons d l => exact h.elim
theorem shpAll_cons {P : Program} {t : TypeId} {ts : List TypeId} {l : List DV} (h : ShpAll P (t :: ts) l) : ∃ d ds, l = d :: ds ∧ ShpV P t d ∧ ShpAll P ts ds := by
  cases l with
  | nil => exact h.elim
  | cons d l => exact ⟨d, l, rfl, h.1, h.2⟩
theorem SCall.mark [Inhabited GlobS] {P : Program} {f : FuncId} {args : List DV} {s : Sto} {K : DV → Sto → Prop} (h : SCall P f args s K) : SCall P f args s K := h
theorem PCall.mark [Inhabited GlobS] {P : Program} {f : FuncId} {args : List DV} {s : Sto} {g : Bool} {K : DV → Prop} (h : PCall P f args s g K) : PCall P f args s g K := h
theorem Tri.mark [Inhabited GlobS] {P : Program} {N : Nat} {Y : YT} {c : Code} {st : St} {Q : DExit → St → Prop} (h : Tri P N Y c st Q) : Tri P N Y c st Q := h
theorem Round.mark [Inhabited GlobS] {ι : Type} {stf : ι → St} {pre : ι → Prop} {μ : ι → Nat} {i : ι} {st : St} (h : Round stf pre μ i st) : Round stf pre μ i st := h
theorem DWl.mark {ρ : Nat → Option Nat} {s : Sto} {pub : Nat → Prop} {ds es : List DV} (h : DWl ρ s pub ds es) : DWl ρ s pub ds es := h
theorem ex_mark {p : DV → Prop} (h : ∃ d, p d) : ∃ d, p d := h
end Go.Dl


