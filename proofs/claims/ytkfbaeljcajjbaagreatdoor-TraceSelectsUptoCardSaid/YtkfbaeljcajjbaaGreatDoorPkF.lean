/- Maps keyed by links, at the document's example. -/
import Derived.Test.YtkfbaeljcajjbaaGreatDoorPkA
import Derived.Test.YtkfbaeljcajjbaaGreatDoorDl24
import Derived.MapKept
import Derived.RangeFuncRecord
import Derived.Laws.IdiomRangeMap
import Derived.Test.YtkfbaeljcajjbaaGreatDoorPkK

namespace Go.Proofs.YtkfbaeljcajjbaaGreatDoor
open Go.RowKit Go.Dl
def kL : Value := .agg #[.int .i64 0, .int .i64 1]
def vM (a : Int) (n : Int) : Value := .agg #[.int .i64 0, .int .i64 1, .int .i64 a, .int .i64 n]
set_option maxRecDepth 100000 in
theorem look_none (W : World) (b : Nat) (h : W.heap[b]? = some (.map #[] 0)) : (Instr.lookup 99 (.map (some b)) kL false).run Tryz.prog W = .ok (.agg #[.int .i64 0, .int .i64 0, .int .i64 0, .int .i64 0]) W := by
  simp only [Instr.lookup, Sem.run_bind, run_underlying Tryz.underlying99, Result.andThen_ok, MapKept.run_getObj_map h]
  kernel_rfl
set_option maxRecDepth 100000 in
theorem look_one (W : World) (b : Nat) (h : W.heap[b]? = some (.map #[⟨kL, vM 5 1, 0⟩] 1)) : (Instr.lookup 99 (.map (some b)) kL false).run Tryz.prog W = .ok (vM 5 1) W := by
  simp only [Instr.lookup, Sem.run_bind, run_underlying Tryz.underlying99, Result.andThen_ok, MapKept.run_getObj_map h]
  kernel_rfl
set_option maxRecDepth 100000 in
theorem upd_none (W : World) (b : Nat) (h : W.heap[b]? = some (.map #[] 0)) : (Instr.mapUpdate 99 (.map (some b)) kL (vM 5 1)).run Tryz.prog W = .ok () (W.putObj b (.map #[⟨kL, vM 5 1, 0⟩] 1)) := by
  have hs := MapKept.run_setObj_map (P := Tryz.prog) (.map #[⟨kL, vM 5 1, 0⟩] 1) h
  simp only [Instr.mapUpdate, Sem.run_bind, run_underlying Tryz.underlying99, Result.andThen_ok, MapKept.run_getObj_map h]
  refine Eq.trans ?_ hs
  kernel_rfl
set_option maxRecDepth 100000 in
theorem upd_one (W : World) (b : Nat) (h : W.heap[b]? = some (.map #[⟨kL, vM 5 1, 0⟩] 1)) : (Instr.mapUpdate 99 (.map (some b)) kL (vM 8 2)).run Tryz.prog W = .ok () (W.putObj b (.map #[⟨kL, vM 8 2, 0⟩] 1)) := by
  have hs := MapKept.run_setObj_map (P := Tryz.prog) (.map #[⟨kL, vM 8 2, 0⟩] 1) h
  simp only [Instr.mapUpdate, Sem.run_bind, run_underlying Tryz.underlying99, Result.andThen_ok, MapKept.run_getObj_map h]
  refine Eq.trans ?_ hs
  kernel_rfl
theorem al_heap (W : World) (o : Obj) (i : Nat) (h : i < W.heap.size) : (W.alloc o).heap[i]? = W.heap[i]? := (MapKept.heap_alloc W o).2 _ h
theorem dr_heap (W : World) (i : Nat) : W.drew.heap[i]? = W.heap[i]? := rfl
def es8 : Array MapEntry := #[⟨kL, vM 8 2, 0⟩]
theorem next_first (w : World) (m : Nat) (ty : TypeId) (hm : w.heap[m]? = some (.map es8 1)) : (Instr.next (.pointer (some ⟨w.heap.size, 0, none⟩)) false ty).run Tryz.prog (w.alloc (.mapIter (some m) 1 #[] 1)) = .ok (.tuple #[.bool true, kL, vM 8 2]) (w.alloc (.mapIter (some m) 1 #[0] 1)) := by
  have hlt : m < w.heap.size := by
    rcases Nat.lt_or_ge m w.heap.size with h | h
    · exact h
    · simp [Array.getElem?_eq_none h] at hm
  have hb' : (w.alloc (.mapIter (some m) 1 #[] 1)).heap[m]? = some (.map es8 1) := by rw [heap_alloc_old w _ hlt, hm]
  have hold : ∀ x ∈ es8.toList, x.born < 1 := fun x hx => by simp [es8] at hx; subst hx; decide
  have e0 : Array.filter (fun e => !(#[] : Array Nat).contains e.born) es8 = es8 := by simp [es8]
  have e1 : es8.filter (fun x => decide (x.born < 1)) = es8 := by simp [es8]
  have e2 : es8.filter (fun x => decide (x.born ≥ 1)) = #[] := by simp [es8]
  have e3 : es8.isEmpty = false := by simp [es8]
  simp only [Instr.next, getObj, Sem.run_bind, Sem.run, heap_alloc_new, hb', Result.andThen, next_test_false #[] es8 1 1 hold (Nat.le_refl _), Bool.false_eq_true, if_false, e0, e1, e2, Array.append_empty]
  simp only [e3, Bool.false_eq_true, if_false, Array.empty_append, Array.size_map]
  have hrun : (choose (Question.mapNext es8.size)).run Tryz.prog (w.alloc (.mapIter (some m) 1 #[] 1)) = .ok 0 (w.alloc (.mapIter (some m) 1 #[] 1)) := by simp [choose, Sem.run, Question.forced, es8]
  have hp : ∀ (h : Array Obj) (x y : Obj), (h.push x).setIfInBounds h.size y = h.push y := by
    intro h x y
    apply Array.toList_inj.1
    simp
  have hset : ∀ (o' : Obj), (setObj w.heap.size o').run Tryz.prog (w.alloc (.mapIter (some m) 1 #[] 1)) = .ok () (w.alloc o') := fun o' => by
    simp only [setObj, Sem.run]
    rw [heap_alloc_new]
    show Result.ok () ({ w.alloc (.mapIter (some m) 1 #[] 1) with heap := (w.heap.push (.mapIter (some m) 1 #[] 1)).setIfInBounds w.heap.size o' } : World) = _
    rw [hp]
    rfl
  have e5 : (es8.map some)[0]? = some (some ⟨kL, vM 8 2, 0⟩) := by simp [es8]
  simp only [hrun, e5, Sem.run_bind, hset, Result.andThen]
  rfl
set_option maxRecDepth 100000 in
theorem next_end (W : World) (it m : Nat) (ty : TypeId) (hi : W.heap[it]? = some (.mapIter (some m) 1 #[0] 1)) (hm : W.heap[m]? = some (.map es8 1)) : (Instr.next (.pointer (some ⟨it, 0, none⟩)) false ty).run Tryz.prog W = .ok (.tuple #[.bool false]) W := by
  simp only [Instr.next, getObj, Sem.run_bind, Sem.run, hi, hm, Result.andThen]
  kernel_rfl
theorem entry_one (w : World) (m : Nat) (hm : w.heap[m]? = some (.map es8 1)) : (Instr.entry (.pointer (some ⟨w.heap.size, 0, none⟩))).run Tryz.prog (w.alloc (.mapIter (some m) 1 #[0] 1)) = .ok (.tuple #[kL, vM 8 2]) (w.alloc (.mapIter (some m) 1 #[0] 1)) :=
  run_entry_map (P := Tryz.prog) w m 1 #[] es8 1 ⟨kL, vM 8 2, 0⟩ hm (by simp [es8]) (by simp [es8])
end Go.Proofs.YtkfbaeljcajjbaaGreatDoor

/- A row of one, sorted: nothing is done. -/
namespace Go.Proofs.YtkfbaeljcajjbaaGreatDoor
open Go.RowKit Go.Dl
set_option maxHeartbeats 2000000 in
set_option maxRecDepth 100000 in
theorem sort_one (W : World) (B C : Nat) (_hC : 1 ≤ C) : Calls Tryz.prog 50 #[.slice (some ⟨B, 0, none⟩) 1 C, .func (.func 51) #[] #[]] W fun e w' => e = .returned (.tuple #[]) ∧ w' = W := by
  go_enter Tryz.func50, Tryz.ntmps50
  go_wp2
  refine wp_loop_rounds 1 ?_
  rw [rounds_succ]
  go_wp2
  refine wp_loop_rounds 1 ?_
  rw [rounds_succ]
  go_wp2
  go_end0
  go_wp2
  try simp only [Exit.inBlock, Exit.then]
  refine bodyPost_ret (results_none rfl _ _ _) rfl ?_
  go_wp2
  go_end0
  exact ⟨rfl, rfl⟩
end Go.Proofs.YtkfbaeljcajjbaaGreatDoor

/- Flows at the document's example. -/
namespace Go.Proofs.YtkfbaeljcajjbaaGreatDoor
open Go.RowKit Go.Dl
def mc (a b c d : Int) (n : ByteArray) (e : Int) : List Value := [.int .i64 a, .int .i64 b, .int .i64 c, .int .i64 d, .string n, .int .i64 e]
def cM : ByteArray := ⟨#[109]⟩
def two : List Value := mc 0 1 3 0 cM 5 ++ mc 0 0 3 1 cM (-3)
theorem cap_one (x : Nat) : 1 ≤ (Question.appendCap 1 0 70).cut x ∧ (Question.appendCap 1 0 70).cut x ≤ maxLen := by
  refine ⟨by simp [Question.cut], ?_⟩
  have := Nat.mod_lt x (show 0 < 2 ^ 63 - 1 by decide)
  show 1 + x % (2 ^ 63 - 1) ≤ 2 ^ 63 - 1
  omega
set_option maxHeartbeats 4000000 in
set_option maxRecDepth 100000 in
theorem flows_kit (w : World) (bk o c : Nat) (_hc : 2 ≤ c) (hcells : ∀ (j : Nat) v, two[j]? = some v → w.cell? ⟨bk, o + j, none⟩ = some v) : Calls Tryz.prog 38 #[.slice (some ⟨bk, o, none⟩) 2 c, .string cM] w fun e w' => ∃ b k, e = .returned (.slice (some ⟨b, 0, none⟩) 1 k) ∧ (1 ≤ k ∧ k ≤ maxLen) ∧ w.heap.size ≤ b ∧ w'.cell? ⟨b, 0, none⟩ = some (.int .i64 0) ∧ w'.cell? ⟨b, 1, none⟩ = some (.int .i64 1) ∧ w'.cell? ⟨b, 2, none⟩ = some (.int .i64 8) ∧ w'.cell? ⟨b, 3, none⟩ = some (.int .i64 2) ∧ Below w.heap.size w w' := by
  have hm : (Instr.makeMap 99 none).run Tryz.prog w = .ok (.map (some w.heap.size)) (w.alloc (.map #[] 0)) := by
    simp [Instr.makeMap]
  have c0 : w.cell? ⟨bk, o, none⟩ = some (.int .i64 0) := hcells 0 _ rfl
  have c1 : w.cell? ⟨bk, o + 1, none⟩ = some (.int .i64 1) := hcells 1 _ rfl
  have c2 : w.cell? ⟨bk, o + 2, none⟩ = some (.int .i64 3) := hcells 2 _ rfl
  have c3 : w.cell? ⟨bk, o + 3, none⟩ = some (.int .i64 0) := hcells 3 _ rfl
  have c4 : w.cell? ⟨bk, o + 4, none⟩ = some (.string cM) := hcells 4 _ rfl
  have c5 : w.cell? ⟨bk, o + 5, none⟩ = some (.int .i64 5) := hcells 5 _ rfl
  have c6 : w.cell? ⟨bk, o + 6, none⟩ = some (.int .i64 0) := hcells 6 _ rfl
  have c7 : w.cell? ⟨bk, o + 7, none⟩ = some (.int .i64 0) := hcells 7 _ rfl
  have c8 : w.cell? ⟨bk, o + 8, none⟩ = some (.int .i64 3) := hcells 8 _ rfl
  have c9 : w.cell? ⟨bk, o + 9, none⟩ = some (.int .i64 1) := hcells 9 _ rfl
  have c10 : w.cell? ⟨bk, o + 10, none⟩ = some (.string cM) := hcells 10 _ rfl
  have c11 : w.cell? ⟨bk, o + 11, none⟩ = some (.int .i64 (-3)) := hcells 11 _ rfl
  have hbk : bk < w.heap.size := World.block_lt_of_cell? w _ c0
  clear hcells
  have hl1 := fun (W : World) (h : W.heap[w.heap.size]? = some (.map #[] 0)) => look_none W w.heap.size h
  have hl2 := fun (W : World) (h : W.heap[w.heap.size]? = some (.map #[⟨kL, vM 5 1, 0⟩] 1)) => look_one W w.heap.size h
  have hu1 := fun (W : World) (h : W.heap[w.heap.size]? = some (.map #[] 0)) => upd_none W w.heap.size h
  have hu2 := fun (W : World) (h : W.heap[w.heap.size]? = some (.map #[⟨kL, vM 5 1, 0⟩] 1)) => upd_one W w.heap.size h
  simp only [kL, vM] at hl1 hl2 hu1 hu2
  have hb0 : (w.alloc (.map #[] 0)).heap[w.heap.size]? = some (.map #[] 0) := heap_alloc_new w _
  have e1 : (w.alloc (.map #[] 0)).heap.size = w.heap.size + 1 := by simp
  go_enter Tryz.func38, Tryz.ntmps38
  go_wp2
  refine wp_loop_rounds 3 ?_
  rw [rounds_succ]
  go_wp2
  go_region
  go_wp2
  rw [hl1 _ (by repeat (first | exact hb0 | rw [dr_heap] | rw [al_heap _ _ _ (by first | omega | (simp; omega) | (simp; done))]))]
  go_wp2
  rw [hu1 _ (by repeat (first | exact hb0 | rw [dr_heap] | rw [al_heap _ _ _ (by first | omega | (simp; omega) | (simp; done))]))]
  generalize hW2 : World.putObj _ _ _ = W2
  have hs2 : w.heap.size < W2.heap.size := by rw [← hW2]; simp <;> omega
  have hm2 : W2.heap[w.heap.size]? = some (.map #[⟨.agg #[.int .i64 0, .int .i64 1], .agg #[.int .i64 0, .int .i64 1, .int .i64 5, .int .i64 1], 0⟩] 1) := by rw [← hW2]; exact World.putObj_heap_same (by first | omega | (simp; omega) | (simp; done))
  have hB2 : Below w.heap.size w W2 := by
    rw [← hW2]
    refine ⟨rfl, rfl, rfl, by first | omega | (simp; omega) | (simp; done), fun i hi => ?_⟩
    rw [World.putObj_heap_other (by omega)]
    repeat (first | rw [dr_heap] | rw [al_heap _ _ _ (by first | omega | (simp; omega) | (simp; done))])
  have d6 : W2.cell? ⟨bk, o + 6, none⟩ = some (.int .i64 0) := by rw [World.cell?_of_block (w := w) (a := ⟨bk, o + 6, none⟩) (hB2.block bk hbk)]; exact c6
  have d7 : W2.cell? ⟨bk, o + 7, none⟩ = some (.int .i64 0) := by rw [World.cell?_of_block (w := w) (a := ⟨bk, o + 7, none⟩) (hB2.block bk hbk)]; exact c7
  have d8 : W2.cell? ⟨bk, o + 8, none⟩ = some (.int .i64 3) := by rw [World.cell?_of_block (w := w) (a := ⟨bk, o + 8, none⟩) (hB2.block bk hbk)]; exact c8
  have d9 : W2.cell? ⟨bk, o + 9, none⟩ = some (.int .i64 1) := by rw [World.cell?_of_block (w := w) (a := ⟨bk, o + 9, none⟩) (hB2.block bk hbk)]; exact c9
  have d10 : W2.cell? ⟨bk, o + 10, none⟩ = some (.string cM) := by rw [World.cell?_of_block (w := w) (a := ⟨bk, o + 10, none⟩) (hB2.block bk hbk)]; exact c10
  have d11 : W2.cell? ⟨bk, o + 11, none⟩ = some (.int .i64 (-3)) := by rw [World.cell?_of_block (w := w) (a := ⟨bk, o + 11, none⟩) (hB2.block bk hbk)]; exact c11
  have hbk2 : bk < W2.heap.size := by omega
  clear hW2 c0 c1 c2 c3 c4 c5 c6 c7 c8 c9 c10 c11 hm hb0 e1
  go_wp2
  rw [rounds_succ]
  go_wp2
  go_region
  go_wp2
  rw [hl2 _ (by repeat (first | exact hm2 | rw [dr_heap] | rw [al_heap _ _ _ (by first | omega | (simp; omega) | (simp; done))]))]
  go_wp2
  rw [hu2 _ (by repeat (first | exact hm2 | rw [dr_heap] | rw [al_heap _ _ _ (by first | omega | (simp; omega) | (simp; done))]))]
  generalize hW3 : World.putObj _ _ _ = W3
  have hs3 : w.heap.size < W3.heap.size := by rw [← hW3]; first | omega | (simp; omega) | (simp; done)
  have hm3 : W3.heap[w.heap.size]? = some (.map #[⟨.agg #[.int .i64 0, .int .i64 1], .agg #[.int .i64 0, .int .i64 1, .int .i64 8, .int .i64 2], 0⟩] 1) := by rw [← hW3]; exact World.putObj_heap_same (by first | omega | (simp; omega) | (simp; done))
  have hB3 : Below w.heap.size w W3 := by
    rw [← hW3]
    refine ⟨hB2.1, hB2.2, hB2.3, by first | omega | (simp; omega) | (simp; done), fun i hi => ?_⟩
    rw [World.putObj_heap_other (by omega)]
    repeat (first | exact hB2.block i hi | rw [dr_heap] | rw [al_heap _ _ _ (by first | omega | (simp; omega) | (simp; done))])
  clear hW3 d6 d7 d8 d9 d10 d11 hbk2 hB2 hm2 hs2 hl1 hl2 hu1 hu2
  go_wp2
  rw [rounds_succ]
  go_wp2
  rw [run_range_map W3 99 _ _ w.heap.size _ 1 Tryz.underlying99 hm3]
  go_wp2
  refine wp_loop_rounds 2 ?_
  rw [rounds_succ]
  go_wp2
  rw [next_first W3 w.heap.size _ hm3]
  simp only [kL, vM]
  go_wp2
  rw [entry_one W3 w.heap.size hm3]
  simp only [kL, vM]
  go_wp2
  have hcap := cap_one (W3.tape W3.drawn (Question.appendCap 1 0 70))
  generalize hW4 : World.drew _ = W4
  have hi4 : W4.heap[W3.heap.size]? = some (.mapIter (some w.heap.size) 1 #[0] 1) := by
    rw [← hW4]
    repeat (first | exact heap_alloc_new _ _ | rw [dr_heap] | rw [al_heap _ _ _ (by first | omega | (simp; omega) | (simp; done))])
  have hm4 : W4.heap[w.heap.size]? = some (.map es8 1) := by
    rw [← hW4]
    repeat (first | exact hm3 | rw [dr_heap] | rw [al_heap _ _ _ (by first | omega | (simp; omega) | (simp; done))])
  have hB4 : Below w.heap.size w W4 := by
    rw [← hW4]
    refine ⟨hB3.1, hB3.2, hB3.3, by first | omega | (simp; omega) | (simp; done), fun i hi => ?_⟩
    repeat (first | exact hB3.block i hi | rw [dr_heap] | rw [al_heap _ _ _ (by first | omega | (simp; omega) | (simp; done))])
  have r0 : W4.cell? ⟨W3.heap.size + 1 + 1 + 1, 0, none⟩ = some (.int .i64 0) := by rw [← hW4]; clear hW4 hi4 hm4 hB4; go_simp; exact (Array.getElem?_append_left (by simp)).trans rfl
  have r1 : W4.cell? ⟨W3.heap.size + 1 + 1 + 1, 1, none⟩ = some (.int .i64 1) := by rw [← hW4]; clear hW4 hi4 hm4 hB4; go_simp; exact (Array.getElem?_append_left (by simp)).trans rfl
  have r2 : W4.cell? ⟨W3.heap.size + 1 + 1 + 1, 2, none⟩ = some (.int .i64 8) := by rw [← hW4]; clear hW4 hi4 hm4 hB4; go_simp; exact (Array.getElem?_append_left (by simp)).trans rfl
  have r3 : W4.cell? ⟨W3.heap.size + 1 + 1 + 1, 3, none⟩ = some (.int .i64 2) := by rw [← hW4]; clear hW4 hi4 hm4 hB4; go_simp; exact (Array.getElem?_append_left (by simp)).trans rfl
  have hb4 : w.heap.size ≤ W3.heap.size + 1 + 1 + 1 := by omega
  clear hW4 hm3 hB3
  generalize W3.heap.size + 1 + 1 + 1 = B at r0 r1 r2 r3 hb4 ⊢
  generalize (Question.appendCap 1 0 70).cut (W3.tape W3.drawn (Question.appendCap 1 0 70)) = C at hcap ⊢
  rw [rounds_succ]
  go_wp2
  rw [next_end _ _ _ _ hi4 hm4]
  clear hi4 hm4
  go_wp2_with (go_at_call 50; refine (sort_one W4 B C hcap.1).mono ?_; rintro e w' ⟨rfl, rfl⟩)
  go_ret
  exact ⟨B, C, rfl, hcap, hb4, r0, r1, r2, r3, hB4⟩
end Go.Proofs.YtkfbaeljcajjbaaGreatDoor

/- Flows at the document's example, as a contract. -/
namespace Go.Proofs.YtkfbaeljcajjbaaGreatDoor
open Go.RowKit Go.Dl
def mA : Mo := ⟨0, 1, 3, 0, cM, 5⟩
def mB : Mo := ⟨0, 0, 3, 1, cM, -3⟩
theorem moD_get : ∀ (j : Nat) v, two[j]? = some v → ∃ i k cs, j = i * 6 + k ∧ ([mA, mB].map moD)[i]? = some cs ∧ cs[k]? = some (DV.v v) := by
  intro j v h
  match j, h with
  | 0, h => exact ⟨0, 0, _, rfl, rfl, by cases h; rfl⟩
  | 1, h => exact ⟨0, 1, _, rfl, rfl, by cases h; rfl⟩
  | 2, h => exact ⟨0, 2, _, rfl, rfl, by cases h; rfl⟩
  | 3, h => exact ⟨0, 3, _, rfl, rfl, by cases h; rfl⟩
  | 4, h => exact ⟨0, 4, _, rfl, rfl, by cases h; rfl⟩
  | 5, h => exact ⟨0, 5, _, rfl, rfl, by cases h; rfl⟩
  | 6, h => exact ⟨1, 0, _, rfl, rfl, by cases h; rfl⟩
  | 7, h => exact ⟨1, 1, _, rfl, rfl, by cases h; rfl⟩
  | 8, h => exact ⟨1, 2, _, rfl, rfl, by cases h; rfl⟩
  | 9, h => exact ⟨1, 3, _, rfl, rfl, by cases h; rfl⟩
  | 10, h => exact ⟨1, 4, _, rfl, rfl, by cases h; rfl⟩
  | 11, h => exact ⟨1, 5, _, rfl, rfl, by cases h; rfl⟩
def mv : List DV := [int1 0, int1 1, int1 8, int1 2]
def mvV : Nat → Value
  | 0 => .int .i64 0
  | 1 => .int .i64 1
  | 2 => .int .i64 8
  | _ => .int .i64 2
theorem flows38_D : DPure Tryz.prog 38 [mos [mA, mB], strV cM] (.lst 4 [mv]) := fun w F vals hg hF hx => by
  match vals, hx.1 with
  | [x0, x1], _ =>
  have e1 : x1 = .string cM := rv_v (hx.2 1 _ _ rfl rfl)
  subst e1
  have h0 := hx.2 0 _ _ rfl rfl
  have key : ∃ bk o c, x0 = .slice (some ⟨bk, o, none⟩) 2 c ∧ (∀ (j : Nat) v, two[j]? = some v → w.cell? ⟨bk, o + j, none⟩ = some v) ∧ 2 ≤ c := by
    unfold mos at h0
    generalize hes : [mA, mB].map moD = es at h0
    cases h0 with
    | data hd =>
      cases hd with
      | lst _ _ a b off cap g ha hn hc hm hsz hcell hd =>
        have hl : es.length = 2 := by rw [← hes]; rfl
        have ha := ha (fun e => by rw [e] at hl; cases hl)
        subst ha
        refine ⟨b, off, cap, by rw [hl], fun j v hj => ?_, by omega⟩
        obtain ⟨i, k, cs, ej, h1, h2⟩ := moD_get j v hj
        rw [hes] at h1
        have h3 := (hcell i _ k _ h1 h2).1
        have h4 := hd i _ k _ h1 h2
        have e : g i k = v := rv_v (RV.data (β := fun _ => none) h4)
        rw [ej, ← Nat.add_assoc, h3, e]
  obtain ⟨bk, o, c, rfl, k1, k2⟩ := key
  refine (flows_kit w bk o c k2 k1).mono fun e w' ⟨b, k, he, hk, hbge, r0, r1, r2, r3, hb⟩ => ?_
  have hdr : Drs = false := rfl
  obtain ⟨k1, _⟩ := (SRel.empty w F hg hF).below' (.of hb fun e => by rw [hdr] at e; cases e)
  have hr : ∀ F : Nat → Prop, (∀ b, w.heap.size ≤ b → F b) → RV w' F (fun _ => none) (.lst 4 [mv]) (.slice (some ⟨b, 0, none⟩) 1 k) := fun F hF => .data (by
    refine RD.lst 4 [mv] _ b 0 k (fun _ j => mvV j) (fun _ => rfl) (fun h => by cases h) hk.1 hk.2 (fun i cs h => ?_) (fun i cs j d h1 h2 => ?_) (fun i cs j d h1 h2 => ?_)
    · match i, h with
      | 0, h => cases h; rfl
    · match i, h1 with
      | 0, h1 =>
        refine ⟨?_, hF _ hbge⟩
        cases h1
        match j, h2 with
        | 0, h2 => exact r0
        | 1, h2 => exact r1
        | 2, h2 => exact r2
        | 3, h2 => exact r3
    · match i, h1 with
      | 0, h1 =>
        cases h1
        match j, h2 with
        | 0, h2 => cases h2; exact .v _ rfl
        | 1, h2 => cases h2; exact .v _ rfl
        | 2, h2 => cases h2; exact .v _ rfl
        | 3, h2 => cases h2; exact .v _ rfl)
  refine ⟨_, (.lst 4 [mv]), _, _, he, rfl, k1, (hr F hF).mono (fun _ _ h => h) fun b hb hFb => ⟨⟨hFb, ?_⟩, rfl⟩⟩
  rcases Nat.lt_or_ge b w.heap.size with hlt | hge
  · exact .inl hlt
  · exact .inr ⟨hge, fun i c hi => by cases hi⟩
end Go.Proofs.YtkfbaeljcajjbaaGreatDoor

/- The document's examples. -/
namespace Go.Proofs.YtkfbaeljcajjbaaGreatDoor
open Go.RowKit Go.Dl
def sX : ByteArray := ⟨#[51, 32, 49, 32, 104, 101, 108, 100, 32, 48, 32, 98, 111, 111, 116, 32, 50]⟩
def sY : ByteArray := ⟨#[51, 32, 49, 32, 104, 101, 108, 100, 32, 48, 32, 98, 111, 111, 116, 32, 48, 50]⟩
theorem fitX : FitM mX := by unfold FitM EvP nd; refine ⟨⟨by decide, by decide⟩, .inl ⟨rfl, by decide, rfl, by decide⟩⟩
theorem itoa_1 : Lib.itoa 1 = [49] := by simp [Lib.itoa, Lib.decDigits]
theorem itoa_0 : Lib.itoa 0 = [48] := by simp [Lib.itoa, Lib.decDigits]
theorem itoa_2 : Lib.itoa 2 = [50] := by simp [Lib.itoa, Lib.decDigits]
theorem itoa_3 : Lib.itoa 3 = [51] := by simp [Lib.itoa, Lib.decDigits]
theorem lineX : lineT mX = sX := by
  rw [fit_line fitX]
  unfold lineF wsT restT
  rw [if_pos (show mX.kind = 1 from rfl)]
  show joinB [numB 3, numB 1, bs cHeld, numB 0, bs cBoot, numB 2] = sX
  simp only [numB, itoa_0, itoa_1, itoa_2, itoa_3]
  rfl
theorem wordsY : wordsB sY = [bs [51], bs [49], bs cHeld, bs [48], bs cBoot, bs [48, 50]] :=
  words_join (ws := [[51], [49], cHeld, [48], cBoot, [48, 50]]) rfl (by decide) (by unfold Plain cHeld cBoot; decide)
theorem momY : momR sY = mX := by
  unfold momR eR pR wR bR aR
  rw [wordsY]
  rfl
theorem readY : readT sY = (mo0, 20) := by
  unfold readT
  rw [momY, lineX]
  exact if_pos (.inr (.inl (by decide)))
end Go.Proofs.YtkfbaeljcajjbaaGreatDoor

/- awake: the chapter's examples. -/
namespace Go.Proofs.YtkfbaeljcajjbaaGreatDoor
open Go.RowKit Go.Dl
attribute [local irreducible] Tri SCall TSem ECall Drawn DFun QSem PSem PCall GCall MCall Round Weak dloadE OW DWl Tells Retold ESem
theorem k70 : eqTK Tryz.prog 70 = some [.int, .int, .int, .int] := by kernel_rfl
theorem k72 : eqTK Tryz.prog 72 = some [.int, .int] := by kernel_rfl
set_option maxRecDepth 20000 in
set_option maxHeartbeats 2000000 in
theorem awake13_D : DPure Tryz.prog 13 [] (bl true) := by
  have h11 : DPure Tryz.prog 11 [.agg (moD mX)] (strV sX) := by
    have := line11_D mX ⟨⟨by decide, by decide⟩, ⟨by decide, by decide⟩⟩ (by decide)
    rw [lineX] at this
    exact this
  have h7 : DPure Tryz.prog 7 [strV sY] (out7 (mo0, 20)) := by
    have := parse7_D sY (by decide)
    rw [readY] at this
    exact this
  refine DFun.data (DFun.body Tryz.func13 rfl (by kernel_rfl) ?_)
  repeat' (first | with_reducible rfl | ((conv => whnf); first | refine And.intro ?_ ?_ | (intro h; first | with_reducible exact tf_no h | with_reducible exact ft_no h | exact Bool.noConfusion h | with_reducible exact h | (have ht : true = true := h; clear ht h) | skip) | ((with_reducible refine DWl.mark ?_); repeat' (first | refine DWl.cons ?_ ?_ | exact DWl.nil | exact DW.same _ rfl | exact DW.ref _ _ _ rfl | exact DW.arr _ _ _ rfl | exact DW.sub _ _ _ _ rfl | exact DW.nilLst _ | refine DW.aggl ?_ | refine DW.tupl ?_ | refine DW.clol ?_ ?_ | exact DW.pubM (l := [mA, mB]) rfl rfl rfl rfl mosRow rfl | exact DW.pubG (l := [mA, mB]) rfl rfl rfl rfl rfl mosRow rfl | exact DW.pubM (l := [mX]) rfl rfl rfl rfl mosRow rfl | exact DW.pubG (l := [mX]) rfl rfl rfl rfl rfl mosRow rfl | exact DW.pubG (l := [mS1, mS4]) rfl rfl rfl rfl rfl mosRow rfl | exact DW.pubM (l := [mS1, mS4]) rfl rfl rfl rfl mosRow rfl | refine DW.int ?_ | refine DW.bool ?_ | refine DW.str ?_)) | ((with_reducible refine SCall.mark ?_); first | refine SCall.data (h11) rfl rfl ?_ | refine SCall.scal (h11) rfl rfl ?_ | refine SCall.data (h7) rfl rfl ?_ | refine SCall.scal (h7) rfl rfl ?_ | refine SCall.tell [2] flows38_D ?_ rfl rfl ?_) | ((with_reducible refine PCall.mark ?_); first | refine PCall.mk (h11) rfl rfl ?_ | refine PCall.mk (h7) rfl rfl ?_) | ((with_reducible refine GCall.mark ?_); first | refine GCall.data (fun _ => h11) rfl rfl ?_ | refine GCall.scal (fun _ => h11) rfl rfl ?_ | refine GCall.data (fun _ => h7) rfl rfl ?_ | refine GCall.scal (fun _ => h7) rfl rfl ?_ | refine GCall.split (fun _ => SCall.tell [3] silence39_D ?_ rfl rfl ?_) (fun hg => absurd hg (by decide)) | refine GCall.split (fun _ => SCall.tell [4] select14_D ?_ rfl rfl ?_) (fun hg => absurd hg (by decide))) | ((with_reducible refine MCall.mark ?_); first | refine MCall.data (fun _ => h11) rfl rfl ?_ | refine MCall.plain (PCall.mk (h11) rfl rfl ?_) | refine MCall.data (fun _ => h7) rfl rfl ?_ | refine MCall.plain (PCall.mk (h7) rfl rfl ?_)) | ((with_reducible refine ex_mark ?_); first | refine dq_eql k70 ?_ rfl ?_ rfl rfl ?_ | refine dq_neq k70 ?_ rfl ?_ rfl rfl ?_ | refine dq_eql k72 ?_ rfl ?_ rfl rfl ?_ | refine dq_neq k72 ?_ rfl ?_ rfl rfl ?_) | ((with_reducible refine ECall.mark ?_); first | refine ECall.only ?_ (fun h => nomatch h) | refine ECall.only ?_ ?_) | ((with_reducible refine Drawn.mark ?_); first | refine Drawn.quiet (by kernel_rfl) ?_) | refine dloadE_go ?_ | refine dcell_ok rfl ?_ | refine AppC.new ?_))
  all_goals first | (with_reducible refine enters_mark ?_; kernel_rfl) | (with_reducible refine boolT_mark ?_; kernel_rfl) | rfl | trivial | assumption | exact Nat.le_of_ble_eq_true rfl | (show entersB _ _ = true; kernel_rfl) | exact DW.same _ rfl | exact DW.ref _ _ _ rfl | exact DW.arr _ _ _ rfl | refine DW.int ?_ | refine dvb ?_ | refine dvi ?_ | exact OW.cells rfl rfl (DWl.same rfl) | exact Nat.zero_le _ | omega | skip
  all_goals repeat' (first | refine OW.cells rfl rfl ?_ | exact DW.nilArr _ rfl | refine DWl.cons ?_ ?_ | exact DWl.nil | exact DW.same _ rfl | exact DW.ref _ _ _ rfl | exact DW.arr _ _ _ rfl | exact DW.sub _ _ _ _ rfl | exact DW.nilLst _ | refine DW.aggl ?_ | refine DW.tupl ?_ | refine DW.clol ?_ ?_ | exact DW.pubM (l := [mA, mB]) rfl rfl rfl rfl mosRow rfl | exact DW.pubG (l := [mA, mB]) rfl rfl rfl rfl rfl mosRow rfl | exact DW.pubM (l := [mX]) rfl rfl rfl rfl mosRow rfl | exact DW.pubG (l := [mX]) rfl rfl rfl rfl rfl mosRow rfl | exact DW.pubG (l := [mS1, mS4]) rfl rfl rfl rfl rfl mosRow rfl | exact DW.pubM (l := [mS1, mS4]) rfl rfl rfl rfl mosRow rfl)
  all_goals try ((conv => whnf); with_reducible first | refine Round.mark ?_ | refine Tells.mark ?_ | refine Retold.mark ?_)
  all_goals try first | (show (_ : Bool) = _; simp_all; done) | (show (_ : Int) < _; simp at *; omega) | (show (_ : Int) ≤ _; simp at *; omega) | (show (_ : Nat) < _; simp at *; omega) | (show (_ : Nat) ≤ _; simp at *; omega)
  conv => whnf
  refine Tells.mk (DW.bool ?_)
  kernel_rfl
end Go.Proofs.YtkfbaeljcajjbaaGreatDoor

/- What TraceLines and TraceBack compute. -/
namespace Go.Proofs.YtkfbaeljcajjbaaGreatDoor
open Go.RowKit Go.Dl
attribute [local irreducible] Tri SCall TSem ECall Drawn DFun QSem PSem PCall GCall MCall Round Weak dloadE OW DWl Tells IntKind.wrap Retold ESem
theorem k25 : eqTK Tryz.prog 25 = some [.int, .int, .int, .int, .str, .int] := by kernel_rfl
theorem ba_self (s : ByteArray) : (s == s) = true := ba_eq.2 rfl
theorem mo_iff (a b c d : Int) (e : ByteArray) (f : Int) (a' b' c' d' : Int) (e' : ByteArray) (f' : Int) : cellsEq [int1 a, int1 b, int1 c, int1 d, strV e, int1 f] [int1 a', int1 b', int1 c', int1 d', strV e', int1 f'] = true ↔ (⟨a, b, c, d, e, f⟩ : Mo) = ⟨a', b', c', d', e', f'⟩ := by
  have h : cellsEq [int1 a, int1 b, int1 c, int1 d, strV e, int1 f] [int1 a', int1 b', int1 c', int1 d', strV e', int1 f'] = ((a == a') && ((b == b') && ((c == c') && ((d == d') && ((e == e') && ((f == f') && true)))))) := rfl
  rw [h]
  simp [ba_eq]
theorem mo_self (a b c d : Int) (e : ByteArray) (f : Int) : cellsEq [int1 a, int1 b, int1 c, int1 d, strV e, int1 f] [int1 a, int1 b, int1 c, int1 d, strV e, int1 f] = true := (mo_iff ..).2 rfl
theorem fit_t {m : Mo} (h : FitM m) : fitM m = true := decide_eq_true h
theorem fit_f {m : Mo} (h : ¬ FitM m) : fitM m = false := decide_eq_false h
attribute [local irreducible] lineT readT fitM
set_option maxRecDepth 20000 in
set_option maxHeartbeats 2000000 in
theorem lines3_D (m : Mo) (s : ByteArray) (hi : I6 m) (hm : m.name.size ≤ 9223372036854775807) (hs : s.size < 4294967281) : DPure Tryz.prog 3 [.agg (moD m), strV s] (bl true) := by
  have h7 := parse7_D s hs
  have h8 := parse8_D s hs
  have h9 := fit9_D m hm
  have h10 := fit10_D m hm
  have h11 := line11_D m hi hm
  have h12 := line12_D m hi hm
  generalize readT s = r at h7 h8
  obtain ⟨⟨a, b, c, d, e, f⟩, k⟩ := r
  refine DFun.data (DFun.body Tryz.func3 rfl (by kernel_rfl) ?_)
  repeat' (first | with_reducible rfl | ((conv => whnf); first | refine And.intro ?_ ?_ | (intro h; first | with_reducible exact tf_no h | with_reducible exact ft_no h | exact Bool.noConfusion h | with_reducible exact h | (refine not_t h ?_; rfl) | (refine not_f h ?_; rfl) | (exfalso; simp [ba_self, mo_self] at h; done) | (have ht : true = true := h; clear ht h) | skip) | ((with_reducible refine DWl.mark ?_); repeat' (first | refine DWl.cons ?_ ?_ | exact DWl.nil | exact DW.same _ rfl | exact DW.ref _ _ _ rfl | exact DW.arr _ _ _ rfl | exact DW.sub _ _ _ _ rfl | exact DW.nilLst _ | refine DW.aggl ?_ | refine DW.tupl ?_ | refine DW.clol ?_ ?_ | refine DW.int ?_ | refine DW.bool ?_ | refine DW.str ?_)) | ((with_reducible refine SCall.mark ?_); first | refine SCall.data (h7) rfl rfl ?_ | refine SCall.scal (h7) rfl rfl ?_ | refine SCall.data (h8) rfl rfl ?_ | refine SCall.scal (h8) rfl rfl ?_ | refine SCall.data (h9) rfl rfl ?_ | refine SCall.scal (h9) rfl rfl ?_ | refine SCall.data (h10) rfl rfl ?_ | refine SCall.scal (h10) rfl rfl ?_ | refine SCall.data (h11) rfl rfl ?_ | refine SCall.scal (h11) rfl rfl ?_ | refine SCall.data (h12) rfl rfl ?_ | refine SCall.scal (h12) rfl rfl ?_ | refine SCall.data (awake13_D) rfl rfl ?_ | refine SCall.scal (awake13_D) rfl rfl ?_) | ((with_reducible refine PCall.mark ?_); first | refine PCall.mk (h7) rfl rfl ?_ | refine PCall.mk (h8) rfl rfl ?_ | refine PCall.mk (h9) rfl rfl ?_ | refine PCall.mk (h10) rfl rfl ?_ | refine PCall.mk (h11) rfl rfl ?_ | refine PCall.mk (h12) rfl rfl ?_ | refine PCall.mk (awake13_D) rfl rfl ?_) | ((with_reducible refine GCall.mark ?_); first | refine GCall.data (fun _ => h7) rfl rfl ?_ | refine GCall.scal (fun _ => h7) rfl rfl ?_ | refine GCall.data (fun _ => h8) rfl rfl ?_ | refine GCall.scal (fun _ => h8) rfl rfl ?_ | refine GCall.data (fun _ => h9) rfl rfl ?_ | refine GCall.scal (fun _ => h9) rfl rfl ?_ | refine GCall.data (fun _ => h10) rfl rfl ?_ | refine GCall.scal (fun _ => h10) rfl rfl ?_ | refine GCall.data (fun _ => h11) rfl rfl ?_ | refine GCall.scal (fun _ => h11) rfl rfl ?_ | refine GCall.data (fun _ => h12) rfl rfl ?_ | refine GCall.scal (fun _ => h12) rfl rfl ?_ | refine GCall.data (fun _ => awake13_D) rfl rfl ?_ | refine GCall.scal (fun _ => awake13_D) rfl rfl ?_) | ((with_reducible refine MCall.mark ?_); first | refine MCall.data (fun _ => h7) rfl rfl ?_ | refine MCall.plain (PCall.mk (h7) rfl rfl ?_) | refine MCall.data (fun _ => h8) rfl rfl ?_ | refine MCall.plain (PCall.mk (h8) rfl rfl ?_) | refine MCall.data (fun _ => h9) rfl rfl ?_ | refine MCall.plain (PCall.mk (h9) rfl rfl ?_) | refine MCall.data (fun _ => h10) rfl rfl ?_ | refine MCall.plain (PCall.mk (h10) rfl rfl ?_) | refine MCall.data (fun _ => h11) rfl rfl ?_ | refine MCall.plain (PCall.mk (h11) rfl rfl ?_) | refine MCall.data (fun _ => h12) rfl rfl ?_ | refine MCall.plain (PCall.mk (h12) rfl rfl ?_) | refine MCall.data (fun _ => awake13_D) rfl rfl ?_ | refine MCall.plain (PCall.mk (awake13_D) rfl rfl ?_)) | ((with_reducible refine Tri.mark ?_); first | (refine Tri.treeX [] (MX.mv 0 0 (MX.mv 0 2 (MX.mv 2 1 (MX.mv 2 3 (MX.mv 0 4 (MX.mv 0 5 (MX.mv 0 6 (MX.mv 0 8 (MX.mv 2 7 (MX.mv 2 9 (MX.mv 0 10 (MX.mv 0 11 (MX.mv 0 12 (MX.mv 0 13 (MX.mv 0 14 (MX.mv 0 15 (MX.mv 0 16 (MX.mv 0 17 (MX.mv 0 18 (MX.mv 0 19 (MX.mv 0 20 (MX.mv 0 21 (MX.mv 0 22 (MX.mv 2 23 (MX.mv 0 24 (MX.mv 0 25 MX.done)))))))))))))))))))))))))) ?_ (by kernel_rfl) ?_; rfl)) | ((with_reducible refine ex_mark ?_); first | refine dq_eql k25 ?_ rfl ?_ rfl rfl ?_ | refine dq_neq k25 ?_ rfl ?_ rfl rfl ?_) | ((with_reducible refine ECall.mark ?_); first | refine ECall.only ?_ ?_ | refine ECall.only ?_ (fun h => nomatch h) | refine ECall.only ?_ ?_) | ((with_reducible refine Drawn.mark ?_); first | (refine Drawn.tree ?_; refine Tri.treeX [] (MX.mv 0 0 (MX.mv 0 2 (MX.mv 2 1 (MX.mv 2 3 (MX.mv 0 4 (MX.mv 0 5 (MX.mv 0 6 (MX.mv 0 8 (MX.mv 2 7 (MX.mv 2 9 (MX.mv 0 10 (MX.mv 0 11 (MX.mv 0 12 (MX.mv 0 13 (MX.mv 0 14 (MX.mv 0 15 (MX.mv 0 16 (MX.mv 0 17 (MX.mv 0 18 (MX.mv 0 19 (MX.mv 0 20 (MX.mv 0 21 (MX.mv 0 22 (MX.mv 2 23 (MX.mv 0 24 (MX.mv 0 25 MX.done)))))))))))))))))))))))))) ?_ (by kernel_rfl) ?_; rfl) | refine Drawn.quiet (by kernel_rfl) ?_) | refine dcell_ok rfl ?_ | refine AppC.new ?_))
  all_goals first | (with_reducible refine enters_mark ?_; kernel_rfl) | (with_reducible refine boolT_mark ?_; kernel_rfl) | rfl | trivial | assumption | exact Nat.le_of_ble_eq_true rfl | (show entersB _ _ = true; kernel_rfl) | exact DW.same _ rfl | exact DW.ref _ _ _ rfl | exact DW.arr _ _ _ rfl | refine DW.int ?_ | refine dvb ?_ | refine dvi ?_ | exact OW.cells rfl rfl (DWl.same rfl) | exact Nat.zero_le _ | omega | skip
  all_goals repeat' (first | refine OW.cells rfl rfl ?_ | exact DW.nilArr _ rfl | refine DWl.cons ?_ ?_ | exact DWl.nil | exact DW.same _ rfl | exact DW.ref _ _ _ rfl | exact DW.arr _ _ _ rfl | exact DW.sub _ _ _ _ rfl | exact DW.nilLst _ | refine DW.aggl ?_ | refine DW.tupl ?_ | refine DW.clol ?_ ?_)
  all_goals try ((conv => whnf); with_reducible first | refine Round.mark ?_ | refine Tells.mark ?_ | refine Retold.mark ?_)
  all_goals try first | (show (_ : Bool) = _; simp_all; done) | (show (_ : Int) < _; simp at *; omega) | (show (_ : Int) ≤ _; simp at *; omega) | (show (_ : Nat) < _; simp at *; omega) | (show (_ : Nat) ≤ _; simp at *; omega)
  conv => whnf
  refine Tells.mk (DW.bool ?_)
  simp [ba_self, mo_self]
theorem join_few {a b : Int} {r : List ByteArray} (ha : I64 a) (hb : I64 b) (hl : r.length ≤ 4) (h : ∀ x ∈ r, x.size ≤ 21) : (joinB (numB a :: numB b :: r)).size < 4294967281 := by
  refine Nat.lt_of_le_of_lt (join_size _ _ 21 ?_) ?_
  · intro x hx
    rcases List.mem_cons.1 hx with rfl | hx
    · exact numB_size _ ha
    · rcases List.mem_cons.1 hx with rfl | hx
      · exact numB_size _ hb
      · exact h x hx
  · rw [List.length_cons]
    have : (r.length + 1 + 1) * (21 + 1) ≤ (4 + 1 + 1) * (21 + 1) := Nat.mul_le_mul_right _ (by omega)
    omega
theorem line_small {m : Mo} (h : FitM m) (hi : I6 m) : (lineT m).size < 4294967281 := by
  have hs := fit_shape h
  rw [fit_line h]
  unfold lineF wsT
  have hn := Nat.le_trans (fit_name h) (show 16 ≤ 21 by decide)
  refine join_few hi.1 (nd_i64 h.1.2) ?_ ?_
  · unfold restT
    (repeat' split) <;> simp
  · rcases h.2 with ⟨k, b, c, d⟩ | ⟨k, b, c, d⟩ | ⟨k, b, c, d⟩ | ⟨k, b, c, d⟩ | ⟨k, b, c, d⟩ | ⟨k, b, c, d⟩
    · rw [rest_1 k]; exact four_le (by decide) (numB_size _ (nd_i64 b)) (by decide) (numB_size _ hi.2)
    · rw [rest_2 k]; exact four_le (by decide) (numB_size _ (nd_i64 b)) (by decide) (why_size _)
    · rw [rest_3 k]; exact four_le (by decide) (numB_size _ (nd_i64 b)) hn (numB_size _ hi.2)
    · rw [rest_4 k]; exact three_le (by decide) (numB_size _ (nd_i64 b)) hn
    · rw [rest_5 k]; exact four_le (by decide) hn (by decide) (numB_size _ hi.2)
    · rw [rest_6 k]; exact three_le (by decide) (numB_size _ (nd_i64 b)) (kind_size _)
set_option maxRecDepth 20000 in
set_option maxHeartbeats 2000000 in
theorem back4_no (m n : Mo) (h10 : DPure Tryz.prog 10 [.agg (moD m)] (bl false)) (h11 : DPure Tryz.prog 11 [.agg (moD m)] (strV ⟨#[]⟩)) : DPure Tryz.prog 4 [.agg (moD m), .agg (moD n)] (bl true) := by
  refine DFun.data (DFun.body Tryz.func4 rfl (by kernel_rfl) ?_)
  repeat' (first | with_reducible rfl | ((conv => whnf); first | refine And.intro ?_ ?_ | (intro h; first | with_reducible exact tf_no h | with_reducible exact ft_no h | exact Bool.noConfusion h | with_reducible exact h | (have ht : true = true := h; clear ht h) | skip) | ((with_reducible refine DWl.mark ?_); repeat' (first | refine DWl.cons ?_ ?_ | exact DWl.nil | exact DW.same _ rfl | exact DW.ref _ _ _ rfl | exact DW.arr _ _ _ rfl | exact DW.sub _ _ _ _ rfl | exact DW.nilLst _ | refine DW.aggl ?_ | refine DW.tupl ?_ | refine DW.clol ?_ ?_ | refine DW.int ?_ | refine DW.bool ?_ | refine DW.str ?_)) | ((with_reducible refine SCall.mark ?_); first | refine SCall.data (h10) rfl rfl ?_ | refine SCall.scal (h10) rfl rfl ?_ | refine SCall.data (h11) rfl rfl ?_ | refine SCall.scal (h11) rfl rfl ?_ | refine SCall.data (awake13_D) rfl rfl ?_ | refine SCall.scal (awake13_D) rfl rfl ?_) | ((with_reducible refine PCall.mark ?_); first | refine PCall.mk (h10) rfl rfl ?_ | refine PCall.mk (h11) rfl rfl ?_ | refine PCall.mk (awake13_D) rfl rfl ?_) | ((with_reducible refine GCall.mark ?_); first | refine GCall.data (fun _ => h10) rfl rfl ?_ | refine GCall.scal (fun _ => h10) rfl rfl ?_ | refine GCall.data (fun _ => h11) rfl rfl ?_ | refine GCall.scal (fun _ => h11) rfl rfl ?_ | refine GCall.data (fun _ => awake13_D) rfl rfl ?_ | refine GCall.scal (fun _ => awake13_D) rfl rfl ?_) | ((with_reducible refine MCall.mark ?_); first | refine MCall.data (fun _ => h10) rfl rfl ?_ | refine MCall.plain (PCall.mk (h10) rfl rfl ?_) | refine MCall.data (fun _ => h11) rfl rfl ?_ | refine MCall.plain (PCall.mk (h11) rfl rfl ?_) | refine MCall.data (fun _ => awake13_D) rfl rfl ?_ | refine MCall.plain (PCall.mk (awake13_D) rfl rfl ?_)) | ((with_reducible refine ECall.mark ?_); first | refine ECall.only ?_ (fun h => nomatch h) | refine ECall.only ?_ ?_) | ((with_reducible refine Drawn.mark ?_); first | refine Drawn.quiet (by kernel_rfl) ?_) | refine dcell_ok rfl ?_ | refine AppC.new ?_))
  all_goals first | (with_reducible refine enters_mark ?_; kernel_rfl) | (with_reducible refine boolT_mark ?_; kernel_rfl) | rfl | trivial | assumption | exact Nat.le_of_ble_eq_true rfl | (show entersB _ _ = true; kernel_rfl) | exact DW.same _ rfl | exact DW.ref _ _ _ rfl | exact DW.arr _ _ _ rfl | refine DW.int ?_ | refine dvb ?_ | refine dvi ?_ | exact OW.cells rfl rfl (DWl.same rfl) | exact Nat.zero_le _ | omega | skip
  all_goals repeat' (first | refine OW.cells rfl rfl ?_ | exact DW.nilArr _ rfl | refine DWl.cons ?_ ?_ | exact DWl.nil | exact DW.same _ rfl | exact DW.ref _ _ _ rfl | exact DW.arr _ _ _ rfl | exact DW.sub _ _ _ _ rfl | exact DW.nilLst _ | refine DW.aggl ?_ | refine DW.tupl ?_ | refine DW.clol ?_ ?_)
  all_goals try ((conv => whnf); with_reducible first | refine Round.mark ?_ | refine Tells.mark ?_ | refine Retold.mark ?_)
  all_goals try first | (show (_ : Bool) = _; simp_all; done) | (show (_ : Int) < _; simp at *; omega) | (show (_ : Int) ≤ _; simp at *; omega) | (show (_ : Nat) < _; simp at *; omega) | (show (_ : Nat) ≤ _; simp at *; omega)
  conv => whnf
  exact Tells.mk (DW.bool rfl)
set_option maxRecDepth 20000 in
set_option maxHeartbeats 2000000 in
theorem back4_yes (m n : Mo) (L M : ByteArray) (h10 : DPure Tryz.prog 10 [.agg (moD m)] (bl true)) (h11 : DPure Tryz.prog 11 [.agg (moD m)] (strV L)) (h12 : DPure Tryz.prog 11 [.agg (moD n)] (strV M)) (h7 : DPure Tryz.prog 7 [strV L] (out7 (m, 0))) (hL : L = M ↔ m = n) : DPure Tryz.prog 4 [.agg (moD m), .agg (moD n)] (bl true) := by
  obtain ⟨a, b, c, d, e, f⟩ := m
  obtain ⟨a', b', c', d', e', f'⟩ := n
  have hE : cellsEq [int1 a, int1 b, int1 c, int1 d, strV e, int1 f] [int1 a', int1 b', int1 c', int1 d', strV e', int1 f'] = (L == M) := by
    rw [Bool.eq_iff_iff, mo_iff, ba_eq]; exact hL.symm
  refine DFun.data (DFun.body Tryz.func4 rfl (by kernel_rfl) ?_)
  repeat' (first | with_reducible rfl | ((conv => whnf); first | refine And.intro ?_ ?_ | (intro h; first | with_reducible exact tf_no h | with_reducible exact ft_no h | exact Bool.noConfusion h | with_reducible exact h | (refine not_t h ?_; rfl) | (refine not_f h ?_; rfl) | (exfalso; simp [mo_self, hE] at h; done) | (have ht : true = true := h; clear ht h) | skip) | ((with_reducible refine DWl.mark ?_); repeat' (first | refine DWl.cons ?_ ?_ | exact DWl.nil | exact DW.same _ rfl | exact DW.ref _ _ _ rfl | exact DW.arr _ _ _ rfl | exact DW.sub _ _ _ _ rfl | exact DW.nilLst _ | refine DW.aggl ?_ | refine DW.tupl ?_ | refine DW.clol ?_ ?_ | refine DW.int ?_ | refine DW.bool ?_ | refine DW.str ?_)) | ((with_reducible refine SCall.mark ?_); first | refine SCall.data (h7) rfl rfl ?_ | refine SCall.scal (h7) rfl rfl ?_ | refine SCall.data (h10) rfl rfl ?_ | refine SCall.scal (h10) rfl rfl ?_ | refine SCall.data (h11) rfl rfl ?_ | refine SCall.scal (h11) rfl rfl ?_ | refine SCall.data (h12) rfl rfl ?_ | refine SCall.scal (h12) rfl rfl ?_ | refine SCall.data (awake13_D) rfl rfl ?_ | refine SCall.scal (awake13_D) rfl rfl ?_) | ((with_reducible refine PCall.mark ?_); first | refine PCall.mk (h7) rfl rfl ?_ | refine PCall.mk (h10) rfl rfl ?_ | refine PCall.mk (h11) rfl rfl ?_ | refine PCall.mk (h12) rfl rfl ?_ | refine PCall.mk (awake13_D) rfl rfl ?_) | ((with_reducible refine GCall.mark ?_); first | refine GCall.data (fun _ => h7) rfl rfl ?_ | refine GCall.scal (fun _ => h7) rfl rfl ?_ | refine GCall.data (fun _ => h10) rfl rfl ?_ | refine GCall.scal (fun _ => h10) rfl rfl ?_ | refine GCall.data (fun _ => h11) rfl rfl ?_ | refine GCall.scal (fun _ => h11) rfl rfl ?_ | refine GCall.data (fun _ => h12) rfl rfl ?_ | refine GCall.scal (fun _ => h12) rfl rfl ?_ | refine GCall.data (fun _ => awake13_D) rfl rfl ?_ | refine GCall.scal (fun _ => awake13_D) rfl rfl ?_) | ((with_reducible refine MCall.mark ?_); first | refine MCall.data (fun _ => h7) rfl rfl ?_ | refine MCall.plain (PCall.mk (h7) rfl rfl ?_) | refine MCall.data (fun _ => h10) rfl rfl ?_ | refine MCall.plain (PCall.mk (h10) rfl rfl ?_) | refine MCall.data (fun _ => h11) rfl rfl ?_ | refine MCall.plain (PCall.mk (h11) rfl rfl ?_) | refine MCall.data (fun _ => h12) rfl rfl ?_ | refine MCall.plain (PCall.mk (h12) rfl rfl ?_) | refine MCall.data (fun _ => awake13_D) rfl rfl ?_ | refine MCall.plain (PCall.mk (awake13_D) rfl rfl ?_)) | ((with_reducible refine Tri.mark ?_); first | (refine Tri.treeX [] (MX.mv 0 0 (MX.mv 0 1 (MX.mv 0 2 (MX.mv 0 3 (MX.mv 0 4 (MX.mv 0 5 (MX.mv 0 6 (MX.mv 0 7 (MX.mv 0 8 (MX.mv 0 9 (MX.mv 0 10 (MX.mv 0 11 (MX.mv 0 13 (MX.mv 2 12 (MX.mv 2 14 (MX.mv 0 15 (MX.mv 0 16 (MX.mv 0 17 (MX.mv 0 18 (MX.mv 2 19 (MX.mv 0 20 (MX.mv 0 21 MX.done)))))))))))))))))))))) ?_ (by kernel_rfl) ?_; rfl)) | ((with_reducible refine ex_mark ?_); first | refine dq_eql k25 ?_ rfl ?_ rfl rfl ?_ | refine dq_neq k25 ?_ rfl ?_ rfl rfl ?_) | ((with_reducible refine ECall.mark ?_); first | refine ECall.only ?_ ?_ | refine ECall.only ?_ (fun h => nomatch h) | refine ECall.only ?_ ?_) | ((with_reducible refine Drawn.mark ?_); first | (refine Drawn.tree ?_; refine Tri.treeX [] (MX.mv 0 0 (MX.mv 0 1 (MX.mv 0 2 (MX.mv 0 3 (MX.mv 0 4 (MX.mv 0 5 (MX.mv 0 6 (MX.mv 0 7 (MX.mv 0 8 (MX.mv 0 9 (MX.mv 0 10 (MX.mv 0 11 (MX.mv 0 13 (MX.mv 2 12 (MX.mv 2 14 (MX.mv 0 15 (MX.mv 0 16 (MX.mv 0 17 (MX.mv 0 18 (MX.mv 2 19 (MX.mv 0 20 (MX.mv 0 21 MX.done)))))))))))))))))))))) ?_ (by kernel_rfl) ?_; rfl) | refine Drawn.quiet (by kernel_rfl) ?_) | refine dcell_ok rfl ?_ | refine AppC.new ?_))
  all_goals first | (with_reducible refine enters_mark ?_; kernel_rfl) | (with_reducible refine boolT_mark ?_; kernel_rfl) | rfl | trivial | assumption | exact Nat.le_of_ble_eq_true rfl | (show entersB _ _ = true; kernel_rfl) | exact DW.same _ rfl | exact DW.ref _ _ _ rfl | exact DW.arr _ _ _ rfl | refine DW.int ?_ | refine dvb ?_ | refine dvi ?_ | exact OW.cells rfl rfl (DWl.same rfl) | exact Nat.zero_le _ | omega | skip
  all_goals repeat' (first | refine OW.cells rfl rfl ?_ | exact DW.nilArr _ rfl | refine DWl.cons ?_ ?_ | exact DWl.nil | exact DW.same _ rfl | exact DW.ref _ _ _ rfl | exact DW.arr _ _ _ rfl | exact DW.sub _ _ _ _ rfl | exact DW.nilLst _ | refine DW.aggl ?_ | refine DW.tupl ?_ | refine DW.clol ?_ ?_)
  all_goals try ((conv => whnf); with_reducible first | refine Round.mark ?_ | refine Tells.mark ?_ | refine Retold.mark ?_)
  all_goals try first | (show (_ : Bool) = _; simp_all; done) | (show (_ : Int) < _; simp at *; omega) | (show (_ : Int) ≤ _; simp at *; omega) | (show (_ : Nat) < _; simp at *; omega) | (show (_ : Nat) ≤ _; simp at *; omega)
  conv => whnf
  refine Tells.mk (DW.bool ?_)
  simp [mo_self, hE]
theorem back4_D (m n : Mo) (hi : I6 m) (hn : I6 n) (hm : m.name.size ≤ 9223372036854775807) (hm' : n.name.size ≤ 9223372036854775807) : DPure Tryz.prog 4 [.agg (moD m), .agg (moD n)] (bl true) := by
  have h10 := fit10_D m hm
  have h11 := line11_D m hi hm
  by_cases h : FitM m
  · rw [fit_t h] at h10
    have h7 := parse7_D (lineT m) (line_small h hi)
    rw [show readT (lineT m) = (m, 0) by rw [fit_line h]; exact P1 h hi] at h7
    exact back4_yes m n (lineT m) (lineT n) h10 h11 (line11_D n hn hm') h7 (line_eq_iff h hi hn)
  · have e := fit_f h
    have e2 := line_no e
    rw [e] at h10
    rw [e2] at h11
    exact back4_no m n h10 h11
end Go.Proofs.YtkfbaeljcajjbaaGreatDoor
