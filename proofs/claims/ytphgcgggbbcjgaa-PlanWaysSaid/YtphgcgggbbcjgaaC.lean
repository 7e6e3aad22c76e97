/- The map of shapes. -/
import Derived.Test.YtphgcgggbbcjgaaB
import Derived.Test.YtphgcgggbbcjgaaDl24
import Derived.MapKept
namespace Go.Proofs.Ytphgcgggbbcjgaa
open Go.RowKit Go.Dl

def fnV (f : Nat) : Value := .func (.func f) #[] #[]
def shE : Array MapEntry := #[⟨.int .i64 1, fnV 36, 0⟩, ⟨.int .i64 2, fnV 37, 1⟩, ⟨.int .i64 3, fnV 38, 2⟩, ⟨.int .i64 4, fnV 39, 3⟩, ⟨.int .i64 5, fnV 40, 4⟩, ⟨.int .i64 6, fnV 41, 5⟩, ⟨.int .i64 7, fnV 42, 6⟩]
theorem alloc_set (w : World) (o o' : Obj) : ({ w.alloc o with heap := (w.alloc o).heap.setIfInBounds w.heap.size o' } : World) = w.alloc o' := by
  have h : (w.alloc o).heap.setIfInBounds w.heap.size o' = w.heap.push o' := by
    apply Array.ext_getElem?
    intro i
    show ((w.heap.push o).setIfInBounds w.heap.size o')[i]? = (w.heap.push o')[i]?
    rw [Array.getElem?_setIfInBounds, Array.getElem?_push, Array.getElem?_push]
    by_cases h : w.heap.size = i
    · subst h; simp
    · rw [if_neg h, if_neg (fun e => h e.symm), if_neg (fun e => h e.symm)]
  rw [h]; rfl
theorem insert_new (w : World) (es : Array MapEntry) (clk : Nat) (x : Int) (v : Value) (h : Instr.findNow (.int .i64) (.int .i64 x) es.toList 0 = some none) :
    (Instr.mapUpdate 52 (.map (some w.heap.size)) (.int .i64 x) v).run Try.prog (w.alloc (.map es clk)) = .ok () (w.alloc (.map (es.push ⟨.int .i64 x, v, clk⟩) (clk + 1))) := by
  have hb : (w.alloc (.map es clk)).heap[w.heap.size]? = some (.map es clk) := heap_alloc_new w _
  have hu := Try.underlying3
  simp only [Instr.mapUpdate, Sem.run_bind, run_underlying Try.underlying52, Result.andThen_ok, MapKept.run_getObj_map hb, MapKept.run_checkKey hu (show MapKept.IsKey (.int .i64) (.int .i64 x) from rfl), MapKept.run_findKey hu h, MapKept.run_setObj_map _ hb, alloc_set]
theorem look_run (x : Int) (b clk : Nat) (w : World) (v : Value) (ok : Bool) (hb : w.heap[b]? = some (.map shE clk)) (h : (∃ i, ok = true ∧ Instr.findNow (.int .i64) (.int .i64 x) shE.toList 0 = some (some (i, v))) ∨ (ok = false ∧ v = .nilFunc ∧ Instr.findNow (.int .i64) (.int .i64 x) shE.toList 0 = some none)) :
    (Instr.lookup 52 (.map (some b)) (.int .i64 x) true).run Try.prog w = .ok (.tuple #[v, .bool ok]) w := by
  have hu := Try.underlying3
  rcases h with ⟨i, rfl, h⟩ | ⟨rfl, rfl, h⟩
  · simp only [Instr.lookup, Sem.run_bind, run_underlying Try.underlying52, Result.andThen_ok, MapKept.run_getObj_map hb, MapKept.run_checkKey hu (show MapKept.IsKey (.int .i64) (.int .i64 x) from rfl), MapKept.run_findKey hu h, Sem.run_pure]
    rfl
  · simp only [Instr.lookup, Sem.run_bind, run_underlying Try.underlying52, Result.andThen_ok, MapKept.run_getObj_map hb, MapKept.run_checkKey hu (show MapKept.IsKey (.int .i64) (.int .i64 x) from rfl), MapKept.run_findKey hu h, Sem.run_pure, Try.zeroValue50]
    rfl
set_option maxHeartbeats 2000000 in
theorem shapes_kit (w : World) : Calls Try.prog 28 #[] w fun e w' => ∃ b clk, e = .returned (.map (some b)) ∧ w'.heap[b]? = some (.map shE clk) ∧ w.heap.size ≤ b ∧ Below w.heap.size w w' := by
  have hm : (Instr.makeMap 52 none).run Try.prog w = .ok (.map (some w.heap.size)) (w.alloc (.map #[] 0)) := by
    simp [Instr.makeMap]
  have h1 := insert_new w #[] 0 1 (fnV 36) rfl
  have h2 := insert_new w #[⟨.int .i64 1, fnV 36, 0⟩] 1 2 (fnV 37) rfl
  have h3 := insert_new w #[⟨.int .i64 1, fnV 36, 0⟩, ⟨.int .i64 2, fnV 37, 1⟩] 2 3 (fnV 38) rfl
  have h4 := insert_new w #[⟨.int .i64 1, fnV 36, 0⟩, ⟨.int .i64 2, fnV 37, 1⟩, ⟨.int .i64 3, fnV 38, 2⟩] 3 4 (fnV 39) rfl
  have h5 := insert_new w #[⟨.int .i64 1, fnV 36, 0⟩, ⟨.int .i64 2, fnV 37, 1⟩, ⟨.int .i64 3, fnV 38, 2⟩, ⟨.int .i64 4, fnV 39, 3⟩] 4 5 (fnV 40) rfl
  have h6 := insert_new w #[⟨.int .i64 1, fnV 36, 0⟩, ⟨.int .i64 2, fnV 37, 1⟩, ⟨.int .i64 3, fnV 38, 2⟩, ⟨.int .i64 4, fnV 39, 3⟩, ⟨.int .i64 5, fnV 40, 4⟩] 5 6 (fnV 41) rfl
  have h7 := insert_new w #[⟨.int .i64 1, fnV 36, 0⟩, ⟨.int .i64 2, fnV 37, 1⟩, ⟨.int .i64 3, fnV 38, 2⟩, ⟨.int .i64 4, fnV 39, 3⟩, ⟨.int .i64 5, fnV 40, 4⟩, ⟨.int .i64 6, fnV 41, 5⟩] 6 7 (fnV 42) rfl
  simp only [fnV, List.push_toArray, List.cons_append, List.nil_append] at h1 h2 h3 h4 h5 h6 h7
  go_enter Try.func28, Try.ntmps28
  go_wp2
  go_ret
  refine ⟨_, _, rfl, heap_alloc_new w _, Nat.le_refl _, (Below.refl _ w).alloc (Nat.le_refl _) _⟩
theorem shapes_D : DPure Try.prog 28 [] (.mp shE) := DPure.kit (args := []) fun w _ => (shapes_kit w).mono fun e w' ⟨b, clk, he, h1, h2, h3⟩ => ⟨_, he, h3, fun F hF => .mp _ b clk h1 (hF b h2)⟩
/-- A shape's function; nil: there is none. -/
def shFn (x : Int) : Value := if x = 1 then fnV 36 else if x = 2 then fnV 37 else if x = 3 then fnV 38 else if x = 4 then fnV 39 else if x = 5 then fnV 40 else if x = 6 then fnV 41 else if x = 7 then fnV 42 else .nilFunc
theorem shapes_no {x : Int} (h : x < 1 ∨ 7 < x) : Instr.findNow (.int .i64) (.int .i64 x) shE.toList 0 = some none := by
  have e : ∀ k : Int, 1 ≤ k → k ≤ 7 → (x == k) = false := fun k h1 h2 => by simp; omega
  simp [shE, Instr.findNow, Instr.sameNow, e]
end Go.Proofs.Ytphgcgggbbcjgaa
