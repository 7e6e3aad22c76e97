/-
  The data-level logic, part 20: calls whose arguments are told anew as data: lent for the call, or given up for good.
-/
import Derived.Test.YtlchjjchgebfiaaGreatDoorDp19

namespace Go.Dl
open Go Go.RowKit
def Gv (s : Sto) (T : List Nat) : Nat → Prop := fun i => i ∈ T ∧ (s.ob i).isSome = true
theorem lendW [Inhabited GlobS] {w0 w : World} {F0 : Nat → Prop} {s : Sto} {β : Beta} (hs : SRel w0 F0 s β w) {args args' : List DV} {vals : List Value} (hd : DWl (fun i => some (i + s.nx)) s (fun _ => True) args args')
    (hx : Pw w (Fr w0 F0 s β) β args vals) : Pw w (fun _ => True) (fun _ => none) args' vals := by
  refine ⟨by rw [← hd.1]; exact hx.1, fun i d' x h1 h2 => ?_⟩
  have hi : i < args.length := by rw [hd.1]; exact (List.getElem?_eq_some_iff.1 h1).1
  have h3 := List.getElem?_eq_getElem hi
  exact DW.rv hs (fun _ _ _ => trivial) (fun _ _ _ _ _ => trivial) (fun i k p e hp => by cases e; rw [(hs.nx _ (by omega)).1] at hp; cases hp) (fun i e => by cases e) (hd.2 i _ _ h3 h1) (hx.2 i _ _ h3 h2)
theorem pcallW [Inhabited GlobS] {P : Program} {f : FuncId} {args args' : List DV} {s : Sto} {r : DV} (hr : Dl.scal r = true) (hd : DWl (fun i => some (i + s.nx)) s (fun _ => True) args args') (h : DPure P f args' r) : PSem P f args s r :=
  fun w0 F0 β w vals hs hx => (h w (fun _ => True) vals hs.gok (fun _ _ => trivial) (lendW hs hd hx)).mono fun e w' ⟨v, r', s', β', he, hq, h1, h2⟩ => by
    subst hq
    have := rv_scal h2 hr
    subst this
    exact ⟨he, h1.below⟩
theorem SCall.scalT [Inhabited GlobS] {P : Program} {f : FuncId} {args args' : List DV} {s : Sto} {K : DV → Sto → Prop} {r : DV} (h : DPure P f args' r) (hd : DWl (fun i => some (i + s.nx)) s (fun _ => True) args args') (hr : Dl.scal r = true) (hK : K r s) : SCall P f args s K :=
  fun w0 F0 β w vals hs hx => (pcallW hr hd h _ _ _ _ _ hs hx).mono fun e w' ⟨he, hb⟩ => by
    obtain ⟨h1, h2⟩ := hs.below' hb
    exact ⟨_, r, s, β, he, hK, h1, h2 _, Nat.le_refl _, rv_svalOf hr⟩
section
variable {P : Program} {f : FuncId} {args args' : List DV} {s : Sto} {g : Bool} {Kd : DV → Prop} {Kt : DV → Sto → Prop} {Kf : Prop} {r : DV}
theorem GCall.data [Inhabited GlobS] (h : g = true → DPure P f args r) (hargs : args.all noIds = true) (hr : noIds r = true) (hK : Kd r) : GCall P f args s g Kd Kt Kf :=
  .inl ⟨r, fun hg => SCall.data (h hg) hargs hr ⟨rfl, rfl⟩, hK⟩
theorem GCall.scal [Inhabited GlobS] (h : g = true → DPure P f args' r) (hl : args.mapM (lend s) = some args') (hr : Dl.scal r = true) (hK : Kd r) : GCall P f args s g Kd Kt Kf :=
  .inl ⟨r, fun hg => SCall.scal (h hg) hl hr ⟨rfl, rfl⟩, hK⟩
theorem GCall.mark [Inhabited GlobS] (h : GCall P f args s g Kd Kt Kf) : GCall P f args s g Kd Kt Kf := h
end
theorem DW.pubM {α : Type} {f : α → List DV} {l : List α} {ρ : Nat → Option Nat} {s : Sto} {id sz n : Nat} {o : DObj} (hob : s.ob id = some o) (hn : l.length = n) (hsz : o.sz = sz) (hz : Nat.ble 1 sz = true) (hr : ∀ r ∈ l.map f, r.length = sz ∧ r.all isData1 = true)
    (hc : o.cells = (l.map f).flatten) : DW ρ s (fun _ => True) (.arr id n) (.lst sz (l.map f)) :=
  DW.pubE hob hsz (Nat.le_of_ble_eq_true hz) trivial (by simpa using hn) hr hc
theorem DW.pubG {α : Type} {f : α → List DV} {l : List α} {ρ : Nat → Option Nat} {s : Sto} {T : List Nat} {id sz n : Nat} {o : DObj} (hob : s.ob id = some o) (hn : l.length = n) (hsz : o.sz = sz) (hz : Nat.ble 1 sz = true) (hT : T.contains id = true) (hr : ∀ r ∈ l.map f, r.length = sz ∧ r.all isData1 = true)
    (hc : o.cells = (l.map f).flatten) : DW ρ s (Gv s T) (.arr id n) (.lst sz (l.map f)) :=
  DW.pubE hob hsz (Nat.le_of_ble_eq_true hz) ⟨by simpa using hT, by rw [hob]; rfl⟩ (by simpa using hn) hr hc
theorem Tells.mark {r0 r : DV} {s : Sto} (h : Tells r0 r s) : Tells r0 r s := h
theorem Retold.mark {K : DV → Sto → Prop} {base : Nat} {r : DV} {s : Sto} (h : Retold K base r s) : Retold K base r s := h
end Go.Dl


