/- With the other sign it tells the same. -/
import Derived.Test.YtphgcgggbbcjgaaDoorU
namespace Go.Proofs.YtphgcgggbbcjgaaDoor
open Go.RowKit Go.Dl

def mirA (a : Al) : Al := if a.kind = 4 then a else ⟨if a.kind = 1 then 2 else if a.kind = 2 then 1 else a.kind, -a.high, -a.low, a.hold⟩
def mirS (s : Wt) : Wt := ⟨s.on, s.run, s.has, -s.last, s.acked, s.since⟩
def mirM (m : Sm) : Sm := ⟨m.tick, m.has, -m.value⟩
theorem mir_hold (a : Al) : (mirA a).hold = a.hold := by unfold mirA; split <;> rfl
theorem mir_fit {a : Al} (h : fitA a = true) : fitA (mirA a) = true := by
  have h1 := fit_iff.1 h
  unfold mirA
  split
  · exact h
  · rename_i h4
    rw [fit_iff]
    simp only
    refine ⟨?_, by omega, by omega, by omega, ?_, by omega, by omega⟩
    · split <;> (try split) <;> omega
    · split <;> (try split) <;> omega
theorem mir_flow (x : Int) : flowB (-x) = flowB x := by
  rw [Bool.eq_iff_iff, flow_iff, flow_iff]; omega
theorem mir_sample (m : Sm) : sampleB (mirM m) = sampleB m := by
  rw [Bool.eq_iff_iff, sample_iff, sample_iff]
  unfold mirM
  simp only [mir_flow]
  constructor
  · rintro ⟨h1, h2, h3⟩; exact ⟨h1, h2, fun e => by have := h3 e; omega⟩
  · rintro ⟨h1, h2, h3⟩; exact ⟨h1, h2, fun e => by have := h3 e; omega⟩
theorem away_neg {x y : Int} (hx : flowB x = true) (hy : flowB y = true) : awayI (-x) (-y) = awayI x y := by
  have hx := flow_iff.1 hx
  have hy := flow_iff.1 hy
  unfold awayI
  rw [wrapI (x := -x - -y) (by omega) (by omega), wrapI (x := -y - -x) (by omega) (by omega), wrapI (x := x - y) (by omega) (by omega), wrapI (x := y - x) (by omega) (by omega)]
  split <;> split <;> omega
theorem dneg (x y : Int) : decide (-x ≤ -y) = decide (y ≤ x) := by rw [Bool.eq_iff_iff]; simp
theorem dneg' (x y : Int) : decide (-x < -y) = decide (y < x) := by rw [Bool.eq_iff_iff]; simp
theorem mir_speaks {a : Al} {s : Wt} {v : Int} (hf : fitA a = true) (hl : flowB s.last = true) (hv : flowB v = true) : speaksB (mirA a) (mirS s) (-v) = speaksB a s v := by
  have h1 := fit_iff.1 hf
  obtain ⟨k, l, u, o⟩ := a
  simp only at h1
  have hk : k = 1 ∨ k = 2 ∨ k = 3 ∨ k = 4 := by omega
  rcases hk with rfl | rfl | rfl | rfl
  · rw [show mirA ⟨1, l, u, o⟩ = ⟨2, -u, -l, o⟩ from rfl, spk1, spk2]
    unfold sp1 sp2 mirS
    simp only [dneg]
  · rw [show mirA ⟨2, l, u, o⟩ = ⟨1, -u, -l, o⟩ from rfl, spk1, spk2]
    unfold sp1 sp2 mirS
    simp only [dneg]
  · rw [show mirA ⟨3, l, u, o⟩ = ⟨3, -u, -l, o⟩ from rfl, spk3, spk3]
    unfold sp3 mirS
    simp only [dneg']
    cases decide (v < l) <;> cases decide (u < v) <;> rfl
  · rw [show mirA ⟨4, l, u, o⟩ = ⟨4, l, u, o⟩ from rfl, spk4, spk4]
    unfold sp4 mirS
    simp only [away_neg hv hl]
theorem mir_take {a : Al} {s : Wt} {m : Sm} (hs : stateB a s = true) (hm : sampleB m = true) : takeT (mirA a) (mirS s) (mirM m) = (mirS (takeT a s m).1, (takeT a s m).2) := by
  have h1 := state_iff.1 hs
  have h2 := sample_iff.1 hm
  have e := mir_speaks (v := m.value) h1.1 h1.2.2.2.1 h2.2.1
  unfold takeT
  rw [show (mirM m).has = m.has from rfl, show (mirM m).value = -m.value from rfl, e, show (mirS s).run = s.run from rfl]
  split
  · generalize (if speaksB a s m.value = true then IntKind.i64.wrap (s.run + 1) else 0) = r
    unfold turnT
    rw [mir_hold, show (mirS s).on = s.on from rfl]
    split
    · split <;> rfl
    · rfl
  · rfl
theorem mir_play {a : Al} {l : List Sm} (hf : fitA a = true) (hl : ∀ m ∈ l, sampleB m = true) : ∀ k, k ≤ l.length → playK (mirA a) (l.map mirM) k = (mirS (playK a l k).1, (playK a l k).2) ∧ stateB a (playK a l k).1 = true := fun k => by
  induction k with
  | zero => intro _; exact ⟨rfl, state0 hf⟩
  | succ k ih =>
    intro hk
    obtain ⟨i1, i2⟩ := ih (by omega)
    have hm : sampleB (l.getD k sm0) = true := by
      refine hl _ ?_
      rw [List.getD_eq_getElem?_getD, List.getElem?_eq_getElem (show k < l.length by omega)]; exact List.getElem_mem _
    have e1 : (l.map mirM).getD k sm0 = mirM (l.getD k sm0) := by
      rw [List.getD_eq_getElem?_getD, List.getD_eq_getElem?_getD, List.getElem?_map, List.getElem?_eq_getElem (show k < l.length by omega)]; rfl
    rw [play_succ (by rw [List.length_map]; omega), play_succ (by omega), e1, i1]
    unfold play1
    rw [if_pos (by rw [mir_sample]; exact hm), if_pos hm]
    rw [mir_take i2 hm]
    exact ⟨rfl, take_fit i2 hm⟩
theorem mir_all {a : Al} {l : List Sm} (hf : fitA a = true) : playT (mirA a) ((fitL l).map mirM) = (mirS (playT a (fitL l)).1, (playT a (fitL l)).2) := by
  have h := (mir_play (l := fitL l) hf (fun m hm => (List.mem_filter.1 hm).2) (fitL l).length (Nat.le_refl _)).1
  unfold playT
  rw [List.length_map]
  exact h
end Go.Proofs.YtphgcgggbbcjgaaDoor
