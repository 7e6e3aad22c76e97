/- Pairs sorted in place, by the kit's contract. -/
import Derived.Test.YtphgcgggbbcjgaaShelf
import Derived.Test.YtphgcgggbbcjgaaC
namespace Go.Proofs.Ytphgcgggbbcjgaa
open Go.RowKit Go.Dl Go.Shelf Go.Sort

abbrev F2 : Type := Fin 64 × Fin 64
def enc64 (x : F2) : List Value := [.int .i64 x.1.val, .int .i64 x.2.val]
def cf64 (x y : F2) : Int := if (x.1.val : Int) = y.1.val then (x.2.val : Int) - y.2.val else (x.1.val : Int) - y.1.val
theorem lt64 (x y : F2) : ltOf cf64 x y = true ↔ x.1.val < y.1.val ∨ (x.1.val = y.1.val ∧ x.2.val < y.2.val) := by
  unfold ltOf cf64
  rw [decide_eq_true_eq]
  generalize x.1.val = a
  generalize x.2.val = b
  generalize y.1.val = c
  generalize y.2.val = d
  split <;> omega
theorem nlt64 (x y : F2) : ltOf cf64 x y = false ↔ ¬ (x.1.val < y.1.val ∨ (x.1.val = y.1.val ∧ x.2.val < y.2.val)) := by
  rw [← lt64]; simp
theorem swo64 : SWO (ltOf cf64) where
  irrefl x := by rw [nlt64]; omega
  trans x y z h1 h2 := by rw [lt64] at *; omega
  ntrans x y z h1 h2 := by rw [nlt64] at *; omega
theorem tot64 (x y : F2) (h1 : ltOf cf64 x y = false) (h2 : ltOf cf64 y x = false) : x = y := by
  rw [nlt64] at h1 h2
  have e : x.1.val = y.1.val ∧ x.2.val = y.2.val := by omega
  exact Prod.ext (Fin.ext e.1) (Fin.ext e.2)
set_option maxHeartbeats 1000000 in
theorem ahead_kit (x y : F2) (W : World) : Calls Try.prog 30 (#[.agg (enc64 x).toArray, .agg (enc64 y).toArray] ++ #[]) W fun e w' => e = .returned (.int .i64 (cf64 x y)) ∧ ∃ q os', w' = grow (W.drewN q) os' := by
  obtain ⟨⟨a, ha⟩, ⟨b, hb⟩⟩ := x
  obtain ⟨⟨c, hc⟩, ⟨d, hd⟩⟩ := y
  have w1 : IntKind.i64.wrap ((a : Int) - c) = (a : Int) - c := wrapI (by omega) (by omega)
  have w2 : IntKind.i64.wrap ((b : Int) - d) = (b : Int) - d := wrapI (by omega) (by omega)
  unfold cf64 enc64
  go_enter Try.func30, Try.ntmps30
  go_wp2
  · rename_i h1
    exfalso; simp [h] at h1
  · go_ret
    exact ⟨rfl, 0, _, by rw [alloc_eq_grow, alloc_eq_grow, grow_grow]; rfl⟩
  · go_ret
    exact ⟨rfl, 0, _, by rw [alloc_eq_grow, alloc_eq_grow, grow_grow]; rfl⟩
  · rename_i h1
    exfalso; simp [h] at h1

def lkF (x : F2) : Lk := (x.1.val, x.2.val)
def sortF (l : List F2) : List F2 := l.mergeSort fun x y => !(ltOf cf64) y x
theorem sortF_len (l : List F2) : (sortF l).length = l.length := List.length_mergeSort l
theorem rowF (l : List F2) : rowD enc64 l = ((l.map lkF).map linkD).flatten := by
  induction l with
  | nil => rfl
  | cons x l ih => simp only [rowD, List.map_cons, List.flatten_cons] at *; rw [ih]; rfl
theorem sort29 {s : Sto} {id len : Nat} {l : List F2} {K : DV → Sto → Prop} (hob : s.ob id = some ⟨44, 2, ((l.map lkF).map linkD).flatten⟩) (hn : len = l.length) (hne : l ≠ [])  (hlen : l.length ≤ 1000000)
    (hK : K (.tup []) ⟨upd s.ob id (some ⟨44, 2, (((sortF l).map lkF).map linkD).flatten⟩), s.nx⟩) : SCall Try.prog 29 [.arr id len, .clo (.func 30) [] []] s K := by
  refine SCall.sorted (enc := enc64) (k := 2) (l := l) (l' := sortF l) (fun _ => rfl) (by decide) (fun x v hv => ?_) hob rfl (rowF l).symm hn hne (sortF_len l) (fun blk cap w hH hblk => ?_) ?_
  · simp [enc64] at hv; rcases hv with rfl | rfl <;> rfl
  · have eg : ∀ args w, (callFunc 30 args).run Try.prog w = .ok (.enter 30 args) w := enters_of Try.func30 (by kernel_rfl) rfl
    have hcon := AnyQ.slices_SortFunc_total Try.sortLinks 2 Try.isAgg44 Try.sizeOf44 enc64 (fun _ => rfl) (fun x v hv => by simp [enc64] at hv; rcases hv with rfl | rfl <;> rfl) cf64 swo64 30 #[] blk 0 cap l.toArray w eg (fun _ _ _ _ x y => ahead_kit x y _) hH hblk (by simp; omega) tot64
    subst hn
    exact hcon
  · rw [rowF]; exact hK
end Go.Proofs.Ytphgcgggbbcjgaa
