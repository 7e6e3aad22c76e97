/-
  The data-level logic, part 17: a callee's results and store, told anew.
-/
import Derived.Test.YtlchjjchgebfiaaGreatDoorDp16

namespace Go.Dl
open Go Go.RowKit
theorem DW.arrE {ρ : Nat → Option Nat} {s : Sto} {pub : Nat → Prop} {id id' len len' : Nat} (h : ρ id' = some id) (hl : len = len') : DW ρ s pub (.arr id len) (.arr id' len') := by rw [← hl]; exact .arr _ _ _ h
def Retold (K : DV → Sto → Prop) (base : Nat) (r : DV) (s : Sto) : Prop :=
  ∃ (r' : DV) (rl : List (Nat × Option Nat)) (pubs : List Nat) (l : List (Nat × DObj)) (nx' : Nat), chkS rl base s.nx nx' (l.map (·.1)) pubs = true ∧ DW (rho rl base s.nx) s (· ∈ pubs) r r' ∧
    allP (fun p => match rho rl base s.nx p.1 with
      | some k => (match s.ob k with | some o => OW (rho rl base s.nx) s (· ∈ pubs) o p.2 | none => False)
      | none => p.2.cells = []) l ∧ K r' (.of l nx')
theorem Retold.list {K : DV → Sto → Prop} {base : Nat} {r : DV} {s : Sto} (rl : List (Nat × Option Nat)) (pubs : List Nat) (r' : DV) (l : List (Nat × DObj)) (nx' : Nat) (h1 : chkS rl base s.nx nx' (l.map (·.1)) pubs = true)
    (h2 : DW (rho rl base s.nx) s (· ∈ pubs) r r') (h3 : allP (fun p => match rho rl base s.nx p.1 with
      | some k => (match s.ob k with | some o => OW (rho rl base s.nx) s (· ∈ pubs) o p.2 | none => False)
      | none => p.2.cells = []) l) (hK : K r' (.of l nx')) : Retold K base r s := ⟨r', rl, pubs, l, nx', h1, h2, h3, hK⟩
theorem SCall.retell [Inhabited GlobS] {P : Program} {f : FuncId} {args : List DV} {s : Sto} {K : DV → Sto → Prop} (h : SCall P f args s (Retold K s.nx)) : SCall P f args s K := fun w0 F0 β w vals hs hx =>
  (h w0 F0 β w vals hs hx).mono fun e w' ⟨v, r, s', β', he, ⟨r', rl, pubs, l, nx', h1, h2, h3, hK⟩, k1, k2, k3, k4⟩ => by
    obtain ⟨g1, g2, g3⟩ := (SW.of h1 h3).step k1
    refine ⟨v, r', _, _, he, hK, g1, k2.trans g2, ?_, g3 h2 k4⟩
    simp only [chkS, Bool.and_eq_true, decide_eq_true_eq] at h1
    exact h1.1.1.1.1
end Go.Dl


