/- How far a value is from the last one, in a region that draws its order. -/
import Derived.Test.YtphgcgggbbcjgaaDoorF
namespace Go.Proofs.YtphgcgggbbcjgaaDoor
open Go.RowKit Go.Dl
theorem away_max (v la : Int) : max (wrap64 (v - la)) (wrap64 (la - v)) = awayI v la := by
  have e : ∀ x, IntKind.i64.wrap x = wrap64 x := fun x => by rw [IntKind.wrap_i64]; unfold wrap64; rfl
  unfold awayI
  rw [e, e]
  generalize wrap64 (v - la) = x
  generalize wrap64 (la - v) = y
  rw [Int.max_def]
  split <;> split <;> omega
set_option maxHeartbeats 1000000 in
theorem away_kit (v la : Int) (b : Nat) (w : World) (h : w.cell? ⟨b, 3, none⟩ = some (.int .i64 la)) : Calls Tryd.prog 48 #[.int .i64 v, .pointer (some ⟨b, 0, none⟩)] w fun e w' => e = .returned (.int .i64 (awayI v la)) ∧ Below w.heap.size w w' := by
  go_enter Tryd.func48, Tryd.ntmps48
  go_wp2
  go_ret
  exact ⟨congrArg (fun z => Ending.returned (Value.int .i64 z)) (away_max v la), Below.refl _ _⟩
theorem psem48 {s : Sto} {id : Nat} {o : DObj} {v la : Int} (hob : s.ob id = some o) (hc : o.cells[3]? = some (int1 la)) : PSem Tryd.prog 48 [int1 v, .ref id 0] s (int1 (awayI v la)) := by
  intro w0 F0 β w vals hs hx
  obtain ⟨hl, hx⟩ := hx
  match vals, hl with
  | [x, y], _ =>
  have h0 := rv_v (hx 0 _ _ rfl rfl)
  have h1 := hx 1 _ _ rfl rfl
  subst h0
  obtain ⟨b, c, hb, rfl⟩ := rv_ref h1
  rcases hs.obs id o hob with g0 | ⟨b', c', cur, g1, _, g3, _, _, g6, g7⟩
  · rw [g0.1] at hb; cases hb
  · rw [g1] at hb
    simp only [Option.some.injEq, Prod.mk.injEq] at hb
    obtain ⟨rfl, rfl⟩ := hb
    obtain ⟨z, hz, hzv⟩ := g7 3 _ hc
    have := rv_v hzv
    subst this
    exact (away_kit v la b' w (by simp [World.cell?, g3, hz])).mono fun _ _ h => ⟨h.1, .of h.2 fun e => nomatch (show false = true from e)⟩
theorem pcall48 {s : Sto} {id : Nat} {o : DObj} {v la : Int} {g : Bool} {K : DV → Prop} (hob : s.ob id = some o) (hc : o.cells[3]? = some (int1 la)) (hK : K (int1 (awayI v la))) : PCall Tryd.prog 48 [int1 v, .ref id 0] s g K :=
  ⟨_, fun _ => ⟨rfl, psem48 hob hc⟩, hK⟩
end Go.Proofs.YtphgcgggbbcjgaaDoor
