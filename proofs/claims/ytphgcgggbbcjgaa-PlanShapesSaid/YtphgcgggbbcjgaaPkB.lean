/- The kit's contract of slices.SortFunc, laid at this program: made by the kit's lay-plain. -/
import Derived.Shelf.SlSortCmp.NoneTotal
import Derived.Test.YtphgcgggbbcjgaaRows
import Derived.Test.YtphgcgggbbcjgaaPkA

namespace Go.Proofs
open Go.Shelf
def Try.sortLinks_ren : Go.Shelf.Ren := ⟨fun | 6 => 29 | 15 => 44 | 14 => 43 | 28 => 66 | 29 => 67 | 20 => 58 | 21 => 59 | 22 => 60 | 23 => 61 | 24 => 62 | 25 => 63 | 26 => 64 | 27 => 65 | 46 => 70 | 47 => 71 | 48 => 72 | 49 => 73 | 50 => 74 | 57 => 75 | n => n, fun | 22 => 23 | 24 => 44 | 25 => 57 | 3 => 3 | 39 => 63 | 0 => 0 | 53 => 88 | 55 => 22 | 4 => 4 | 46 => 81 | 45 => 80 | 50 => 85 | 5 => 5 | 9 => 9 | 66 => 91 | 70 => 95 | 76 => 97 | 77 => 98 | n => n, fun | n => n⟩
theorem Try.sortLinks : Go.Proofs.SlLaysF0.n6 Try.prog Try.sortLinks_ren := {
  mixed := by kernel_rfl
  f6 := ⟨Try.f29.name, by decide, Try.func29.trans (congrArg some (by kernel_rfl))⟩
  f14 := ⟨Try.f43.name, by decide, Try.func43.trans (congrArg some (by kernel_rfl))⟩
  f15 := Try.func44.trans (congrArg some (by kernel_rfl))
  f20 := ⟨Try.f58.name, by decide, Try.func58.trans (congrArg some (by kernel_rfl))⟩
  f21 := ⟨Try.f59.name, by decide, Try.func59.trans (congrArg some (by kernel_rfl))⟩
  f22 := ⟨Try.f60.name, by decide, Try.func60.trans (congrArg some (by kernel_rfl))⟩
  f23 := ⟨Try.f61.name, by decide, Try.func61.trans (congrArg some (by kernel_rfl))⟩
  f24 := ⟨Try.f62.name, by decide, Try.func62.trans (congrArg some (by kernel_rfl))⟩
  f25 := ⟨Try.f63.name, by decide, Try.func63.trans (congrArg some (by kernel_rfl))⟩
  f26 := ⟨Try.f64.name, by decide, Try.func64.trans (congrArg some (by kernel_rfl))⟩
  f27 := ⟨Try.f65.name, by decide, Try.func65.trans (congrArg some (by kernel_rfl))⟩
  f28 := Try.func66.trans (congrArg some (by kernel_rfl))
  f29 := Try.func67.trans (congrArg some (by kernel_rfl))
  f46 := ⟨Try.f70.name, by decide, Try.func70.trans (congrArg some (by kernel_rfl))⟩
  f47 := Try.func71.trans (congrArg some (by kernel_rfl))
  f48 := Try.func72.trans (congrArg some (by kernel_rfl))
  f49 := ⟨Try.f73.name, by decide, Try.func73.trans (congrArg some (by kernel_rfl))⟩
  f50 := ⟨Try.f74.name, by decide, Try.func74.trans (congrArg some (by kernel_rfl))⟩
  f57 := ⟨Try.f75.name, by decide, Try.func75.trans (congrArg some (by kernel_rfl))⟩
  t0 := Try.underlying0
  a0 := Try.isAgg0
  z0 := Try.sizeOf0
  v0 := Try.zeroValue0
  t3 := Try.underlying3
  a3 := Try.isAgg3
  z3 := Try.sizeOf3
  v3 := Try.zeroValue3
  t4 := Try.underlying4
  a4 := Try.isAgg4
  z4 := Try.sizeOf4
  v4 := Try.zeroValue4
  t5 := Try.underlying5
  a5 := Try.isAgg5
  z5 := Try.sizeOf5
  v5 := Try.zeroValue5
  t9 := Try.underlying9
  a9 := Try.isAgg9
  z9 := Try.sizeOf9
  v9 := Try.zeroValue9
  t22 := Try.underlying23
  a22 := Try.isAgg23
  z22 := Try.sizeOf23
  v22 := Try.zeroValue23
  t25 := Try.underlying57
  a25 := Try.isAgg57
  z25 := Try.sizeOf57
  v25 := Try.zeroValue57
  t39 := Try.underlying63
  a39 := Try.isAgg63
  z39 := Try.sizeOf63
  v39 := Try.zeroValue63
  t45 := Try.underlying80
  a45 := Try.isAgg80
  z45 := Try.sizeOf80
  v45 := Try.zeroValue80
  t46 := Try.underlying81
  a46 := Try.isAgg81
  z46 := Try.sizeOf81
  v46 := Try.zeroValue81
  t50 := Try.underlying85
  a50 := Try.isAgg85
  z50 := Try.sizeOf85
  v50 := Try.zeroValue85
  t53 := Try.underlying88
  a53 := Try.isAgg88
  z53 := Try.sizeOf88
  v53 := Try.zeroValue88
  t55 := Try.underlying22
  a55 := Try.isAgg22
  z55 := Try.sizeOf22
  v55 := Try.zeroValue22
  t66 := Try.underlying91
  a66 := Try.isAgg91
  z66 := Try.sizeOf91
  v66 := Try.zeroValue91
  t70 := Try.underlying95
  a70 := Try.isAgg95
  z70 := Try.sizeOf95
  v70 := Try.zeroValue95
  t76 := Try.underlying97
  a76 := Try.isAgg97
  z76 := Try.sizeOf97
  v76 := Try.zeroValue97
  t77 := Try.underlying98
  a77 := Try.isAgg98
  z77 := Try.sizeOf98
  v77 := Try.zeroValue98 }
end Go.Proofs

/- Pairs sorted in place, by the kit's contract. -/
namespace Go.Proofs.Ytphgcgggbbcjgaa
open Go.RowKit Go.Dl Go.Shelf Go.Sort

abbrev F2 : Type := Fin 64 × Fin 64
def enc64 (x : F2) : List Value := [.int .i64 x.1.val, .int .i64 x.2.val]
def cf64 (x y : F2) : Int := if (x.1.val : Int) = y.1.val then (x.2.val : Int) - y.2.val else (x.1.val : Int) - y.1.val
theorem lt64 (x y : F2) : ltOf cf64 x y = true ↔ x.1.val < y.1.val ∨ (x.1.val = y.1.val ∧ x.2.val < y.2.val) := by
  unfold ltOf cf64
  rw [decide_eq_true_eq]
  generalize x.1.val = a
  generalize x.2.val = b
  generalize y.1.val = c
  generalize y.2.val = d
  split <;> omega
theorem nlt64 (x y : F2) : ltOf cf64 x y = false ↔ ¬ (x.1.val < y.1.val ∨ (x.1.val = y.1.val ∧ x.2.val < y.2.val)) := by
  rw [← lt64]; simp
theorem swo64 : SWO (ltOf cf64) where
  irrefl x := by rw [nlt64]; omega
  trans x y z h1 h2 := by rw [lt64] at *; omega
  ntrans x y z h1 h2 := by rw [nlt64] at *; omega
theorem tot64 (x y : F2) (h1 : ltOf cf64 x y = false) (h2 : ltOf cf64 y x = false) : x = y := by
  rw [nlt64] at h1 h2
  have e : x.1.val = y.1.val ∧ x.2.val = y.2.val := by omega
  exact Prod.ext (Fin.ext e.1) (Fin.ext e.2)
set_option maxHeartbeats 1000000 in
theorem ahead_kit (x y : F2) (W : World) : Calls Try.prog 30 (#[.agg (enc64 x).toArray, .agg (enc64 y).toArray] ++ #[]) W fun e w' => e = .returned (.int .i64 (cf64 x y)) ∧ ∃ q os', w' = grow (W.drewN q) os' := by
  obtain ⟨⟨a, ha⟩, ⟨b, hb⟩⟩ := x
  obtain ⟨⟨c, hc⟩, ⟨d, hd⟩⟩ := y
  have w1 : IntKind.i64.wrap ((a : Int) - c) = (a : Int) - c := wrapI (by omega) (by omega)
  have w2 : IntKind.i64.wrap ((b : Int) - d) = (b : Int) - d := wrapI (by omega) (by omega)
  unfold cf64 enc64
  go_enter Try.func30, Try.ntmps30
  go_wp2
  · rename_i h1
    exfalso; simp [h] at h1
  · go_ret
    exact ⟨rfl, 0, _, by rw [alloc_eq_grow, alloc_eq_grow, grow_grow]; rfl⟩
  · go_ret
    exact ⟨rfl, 0, _, by rw [alloc_eq_grow, alloc_eq_grow, grow_grow]; rfl⟩
  · rename_i h1
    exfalso; simp [h] at h1

def lkF (x : F2) : Lk := (x.1.val, x.2.val)
def sortF (l : List F2) : List F2 := l.mergeSort fun x y => !(ltOf cf64) y x
theorem sortF_len (l : List F2) : (sortF l).length = l.length := List.length_mergeSort l
theorem rowF (l : List F2) : rowD enc64 l = ((l.map lkF).map linkD).flatten := by
  induction l with
  | nil => rfl
  | cons x l ih => simp only [rowD, List.map_cons, List.flatten_cons] at *; rw [ih]; rfl
theorem sort29 {s : Sto} {id len : Nat} {l : List F2} {K : DV → Sto → Prop} (hob : s.ob id = some ⟨44, 2, ((l.map lkF).map linkD).flatten⟩) (hn : len = l.length) (hne : l ≠ [])  (hlen : l.length ≤ 1000000)
    (hK : K (.tup []) ⟨upd s.ob id (some ⟨44, 2, (((sortF l).map lkF).map linkD).flatten⟩), s.nx⟩) : SCall Try.prog 29 [.arr id len, .clo (.func 30) [] []] s K := by
  refine SCall.sorted (enc := enc64) (k := 2) (l := l) (l' := sortF l) (fun _ => rfl) (by decide) (fun x v hv => ?_) hob rfl (rowF l).symm hn hne (sortF_len l) (fun blk cap w hH hblk => ?_) ?_
  · simp [enc64] at hv; rcases hv with rfl | rfl <;> rfl
  · have eg : ∀ args w, (callFunc 30 args).run Try.prog w = .ok (.enter 30 args) w := enters_of Try.func30 (by kernel_rfl) rfl
    have hcon := AnyQ.slices_SortFunc_total Try.sortLinks 2 Try.isAgg44 Try.sizeOf44 enc64 (fun _ => rfl) (fun x v hv => by simp [enc64] at hv; rcases hv with rfl | rfl <;> rfl) cf64 swo64 30 #[] blk 0 cap l.toArray w eg (fun _ _ _ _ x y => ahead_kit x y _) hH hblk (by simp; omega) tot64
    subst hn
    exact hcon
  · rw [rowF]; exact hK
end Go.Proofs.Ytphgcgggbbcjgaa

/- Links of the example's shapes. -/
namespace Go.Proofs.Ytphgcgggbbcjgaa
open Go.RowKit Go.Dl
attribute [local irreducible] Tri SCall DFun QSem PCall GCall MCall Round Weak dloadE OW DWl Tells Retold ESem

theorem dq_look {s : Sto} {ρ : Operand → DV} {m k : Operand} {x : Int} {g : Bool} {K : DV → Prop} (f i : Nat) (hm : ρ m = .mp shE) (hk : ρ k = .v (.int .i64 x))
    (h : Instr.findNow (.int .i64) (.int .i64 x) shE.toList 0 = some (some (i, fnV f))) (hK : K (.tup [.clo (.func f) [] [], .v (.bool true)])) : ∃ d, (g = true → QSem Try.prog s (.lookup 52 m k true) ρ d) ∧ K d :=
  dq_lookup (.tuple #[fnV f, .bool true]) hm hk (fun b clk w hb => look_run x b clk w _ true hb (.inl ⟨i, rfl, h⟩)) (fun w F β => .tup _ [fnV f, .bool true] rfl (fun j d y h1 h2 => by
    match j, h1, h2 with
    | 0, h1, h2 => cases h1; cases h2; exact .clo _ [] [] [] [] rfl rfl (fun i d x h => by simp at h) (fun i d x h => by simp at h)
    | 1, h1, h2 => cases h1; cases h2; exact .data (.v _ rfl))) hK
theorem linksRow (l : List Lk) : ∀ r ∈ l.map linkD, r.length = 2 ∧ r.all isData1 = true := by
  intro r hr
  obtain ⟨x, _, rfl⟩ := List.mem_map.1 hr
  exact ⟨rfl, rfl⟩
def star7 : List Lk := [(0, 1), (0, 2), (0, 3), (0, 4), (0, 5), (0, 6), (0, 7)]
theorem not_t {b : Bool} {Q : Prop} (h : b = true) (h' : b = false) : Q := by rw [h'] at h; cases h
theorem not_f {b : Bool} {Q : Prop} (h : b = false) (h' : b = true) : Q := by rw [h'] at h; cases h
set_option maxRecDepth 100000 in
set_option maxHeartbeats 1000000 in
theorem star8_D : DPure Try.prog 8 [int1 3, int1 8, int1 0] (.tup [links [], int1 43]) := by
  refine DFun.data (DFun.body Try.func8 rfl (by kernel_rfl) ?_)
  repeat' (first | with_reducible rfl | ((conv => whnf); first | refine And.intro ?_ ?_ | (intro h; first | exact Bool.noConfusion h | with_reducible exact h | (refine not_t h ?_; rfl) | (refine not_f h ?_; rfl) | (have ht : true = true := h; clear ht h) | skip) | ((with_reducible refine DWl.mark ?_); repeat' (first | refine DWl.cons ?_ ?_ | exact DWl.nil | exact DW.same _ rfl | exact DW.ref _ _ _ rfl | exact DW.arr _ _ _ rfl | exact DW.sub _ _ _ _ rfl | exact DW.nilLst _ | refine DW.aggl ?_ | refine DW.tupl ?_ | refine DW.clol ?_ ?_ | refine DW.int ?_ | refine DW.bool ?_ | refine DW.str ?_)) | ((with_reducible refine SCall.mark ?_); first | refine SCall.data (shapes_D) rfl rfl ?_ | refine SCall.run Try.func38 rfl (Nat.le_of_ble_eq_true rfl) (by kernel_rfl) ?_) | ((with_reducible refine GCall.mark ?_); first | refine GCall.data (fun _ => shapes_D) rfl rfl ?_) | ((with_reducible refine MCall.mark ?_); first | refine MCall.data (fun _ => shapes_D) rfl rfl ?_) | ((with_reducible refine ex_mark ?_); first | refine dq_look 38 2 rfl rfl rfl ?_) | refine dcell_ok rfl ?_ | refine AppC.new ?_))
  all_goals first | (with_reducible refine enters_mark ?_; kernel_rfl) | (with_reducible refine boolT_mark ?_; kernel_rfl) | rfl | trivial | assumption | exact Nat.le_of_ble_eq_true rfl | (show entersB _ _ = true; kernel_rfl) | exact DW.same _ rfl | exact DW.ref _ _ _ rfl | exact DW.arr _ _ _ rfl | refine DW.int ?_ | refine dvb ?_ | refine dvi ?_ | exact OW.cells rfl rfl (DWl.same rfl) | exact Nat.zero_le _ | omega | skip
  all_goals repeat' (first | refine OW.cells rfl rfl ?_ | exact DW.nilArr _ rfl | refine DWl.cons ?_ ?_ | exact DWl.nil | exact DW.same _ rfl | exact DW.ref _ _ _ rfl | exact DW.arr _ _ _ rfl | exact DW.sub _ _ _ _ rfl | exact DW.nilLst _ | refine DW.aggl ?_ | refine DW.tupl ?_ | refine DW.clol ?_ ?_)
  all_goals try ((conv => whnf); with_reducible first | refine Round.mark ?_ | refine Tells.mark ?_ | refine Retold.mark ?_)
  all_goals try first | (show (_ : Bool) = _; simp_all; done) | (show (_ : Int) < _; simp at *; omega) | (show (_ : Int) ≤ _; simp at *; omega) | (show (_ : Nat) < _; simp at *; omega) | (show (_ : Nat) ≤ _; simp at *; omega)
  conv => whnf
  refine Tri.range rfl (by kernel_rfl) rfl rfl (by rfl) (by kernel_rfl) fun lb => ?_
  repeat' (first | with_reducible rfl | ((conv => whnf); first | refine And.intro ?_ ?_ | (intro h; first | exact Bool.noConfusion h | with_reducible exact h | (refine not_t h ?_; rfl) | (refine not_f h ?_; rfl) | (have ht : true = true := h; clear ht h) | skip) | ((with_reducible refine DWl.mark ?_); repeat' (first | refine DWl.cons ?_ ?_ | exact DWl.nil | exact DW.same _ rfl | exact DW.ref _ _ _ rfl | exact DW.arr _ _ _ rfl | exact DW.sub _ _ _ _ rfl | exact DW.nilLst _ | refine DW.aggl ?_ | refine DW.tupl ?_ | refine DW.clol ?_ ?_ | exact DW.pubM rfl rfl rfl rfl (linksRow _) rfl | exact DW.pubG rfl rfl rfl rfl rfl (linksRow _) rfl | exact DW.pubM rfl (List.length_map _).symm rfl rfl (linksRow _) rfl | exact DW.pubG rfl (List.length_map _).symm rfl rfl rfl (linksRow _) rfl | refine DW.int ?_ | refine DW.bool ?_ | refine DW.str ?_)) | ((with_reducible refine SCall.mark ?_); first | (refine SCall.scalT (deg22_D star7 0) ?dwq rfl ?_; case dwq => (repeat' (first | refine DWl.cons ?_ ?_ | exact DWl.nil | exact DW.same _ rfl | exact DW.ref _ _ _ rfl | exact DW.arr _ _ _ rfl | exact DW.sub _ _ _ _ rfl | exact DW.nilLst _ | refine DW.aggl ?_ | refine DW.tupl ?_ | refine DW.clol ?_ ?_ | exact DW.pubM rfl rfl rfl rfl (linksRow _) rfl | exact DW.pubG rfl rfl rfl rfl rfl (linksRow _) rfl | exact DW.pubM rfl (List.length_map _).symm rfl rfl (linksRow _) rfl | exact DW.pubG rfl (List.length_map _).symm rfl rfl rfl (linksRow _) rfl | refine DW.int ?_ | refine DW.bool ?_ | refine DW.str ?_)))) | ((with_reducible refine GCall.mark ?_); first | (refine GCall.scalT (fun _ => deg22_D star7 0) ?dwq rfl ?_; case dwq => (intro _; repeat' (first | refine DWl.cons ?_ ?_ | exact DWl.nil | exact DW.same _ rfl | exact DW.ref _ _ _ rfl | exact DW.arr _ _ _ rfl | exact DW.sub _ _ _ _ rfl | exact DW.nilLst _ | refine DW.aggl ?_ | refine DW.tupl ?_ | refine DW.clol ?_ ?_ | exact DW.pubM rfl rfl rfl rfl (linksRow _) rfl | exact DW.pubG rfl rfl rfl rfl rfl (linksRow _) rfl | exact DW.pubM rfl (List.length_map _).symm rfl rfl (linksRow _) rfl | exact DW.pubG rfl (List.length_map _).symm rfl rfl rfl (linksRow _) rfl | refine DW.int ?_ | refine DW.bool ?_ | refine DW.str ?_)))) | ((with_reducible refine Tri.mark ?_); first | refine Tri.rounds 9 (by kernel_rfl) ?_) | refine dcell_ok rfl ?_ | refine AppC.new ?_))
  all_goals first | (with_reducible refine enters_mark ?_; kernel_rfl) | (with_reducible refine boolT_mark ?_; kernel_rfl) | rfl | trivial | assumption | exact Nat.le_of_ble_eq_true rfl | (show entersB _ _ = true; kernel_rfl) | exact DW.same _ rfl | exact DW.ref _ _ _ rfl | exact DW.arr _ _ _ rfl | refine DW.int ?_ | refine dvb ?_ | refine dvi ?_ | exact OW.cells rfl rfl (DWl.same rfl) | exact Nat.zero_le _ | omega | skip
  all_goals repeat' (first | refine OW.cells rfl rfl ?_ | exact DW.nilArr _ rfl | refine DWl.cons ?_ ?_ | exact DWl.nil | exact DW.same _ rfl | exact DW.ref _ _ _ rfl | exact DW.arr _ _ _ rfl | exact DW.sub _ _ _ _ rfl | exact DW.nilLst _ | refine DW.aggl ?_ | refine DW.tupl ?_ | refine DW.clol ?_ ?_ | exact DW.pubM rfl rfl rfl rfl (linksRow _) rfl | exact DW.pubG rfl rfl rfl rfl rfl (linksRow _) rfl | exact DW.pubM rfl (List.length_map _).symm rfl rfl (linksRow _) rfl | exact DW.pubG rfl (List.length_map _).symm rfl rfl rfl (linksRow _) rfl)
  all_goals try ((conv => whnf); with_reducible first | refine Round.mark ?_ | refine Tells.mark ?_ | refine Retold.mark ?_)
  all_goals try first | (show (_ : Bool) = _; simp_all; done) | (show (_ : Int) < _; simp at *; omega) | (show (_ : Int) ≤ _; simp at *; omega) | (show (_ : Nat) < _; simp at *; omega) | (show (_ : Nat) ≤ _; simp at *; omega)
  conv => whnf
  exact Tells.mk (DW.tupl (DWl.cons (DW.nilLst _) (DWl.cons (DW.same _ rfl) DWl.nil)))

def ring0 : List Lk := [(0, 1), (1, 2), (2, 3), (0, 3)]
def ringF : List F2 := [(0, 1), (1, 2), (2, 3), (0, 3)]
def ring4 : List Lk := [(0, 1), (0, 3), (1, 2), (2, 3)]
theorem ring_sorted : (sortF ringF).map lkF = ring4 := by
  have h : sortF ringF = [(0, 1), (0, 3), (1, 2), (2, 3)] := by
    unfold sortF ringF
    have e : ∀ x y : F2, ltOf cf64 x y = decide (x.1.val < y.1.val ∨ (x.1.val = y.1.val ∧ x.2.val < y.2.val)) := fun x y => by rw [Bool.eq_iff_iff, lt64, decide_eq_true_eq]
    have c1 : ltOf cf64 (1, 2) (0, 1) = false := by rw [e]; decide
    have c2 : ltOf cf64 (0, 3) (2, 3) = true := by rw [e]; decide
    have c3 : ltOf cf64 (0, 3) (0, 1) = false := by rw [e]; decide
    have c4 : ltOf cf64 (0, 3) (1, 2) = true := by rw [e]; decide
    have c5 : ltOf cf64 (2, 3) (1, 2) = false := by rw [e]; decide
    simp [List.mergeSort, List.MergeSort.Internal.splitInTwo, List.merge, c1, c2, c3, c4, c5]
  rw [h]; rfl
set_option maxRecDepth 100000 in
set_option maxHeartbeats 1000000 in
theorem ring4_D : DPure Try.prog 8 [int1 2, int1 4, int1 0] (.tup [links ring4, int1 0]) := by
  refine DFun.data (DFun.body Try.func8 rfl (by kernel_rfl) ?_)
  repeat' (first | with_reducible rfl | ((conv => whnf); first | refine And.intro ?_ ?_ | (intro h; first | exact Bool.noConfusion h | with_reducible exact h | (refine not_t h ?_; rfl) | (refine not_f h ?_; rfl) | (have ht : true = true := h; clear ht h) | skip) | ((with_reducible refine DWl.mark ?_); repeat' (first | refine DWl.cons ?_ ?_ | exact DWl.nil | exact DW.same _ rfl | exact DW.ref _ _ _ rfl | exact DW.arr _ _ _ rfl | exact DW.sub _ _ _ _ rfl | exact DW.nilLst _ | refine DW.aggl ?_ | refine DW.tupl ?_ | refine DW.clol ?_ ?_ | refine DW.int ?_ | refine DW.bool ?_ | refine DW.str ?_)) | ((with_reducible refine SCall.mark ?_); first | refine SCall.data (shapes_D) rfl rfl ?_ | refine SCall.run Try.func37 rfl (Nat.le_of_ble_eq_true rfl) (by kernel_rfl) ?_) | ((with_reducible refine GCall.mark ?_); first | refine GCall.data (fun _ => shapes_D) rfl rfl ?_) | ((with_reducible refine MCall.mark ?_); first | refine MCall.data (fun _ => shapes_D) rfl rfl ?_) | ((with_reducible refine ex_mark ?_); first | refine dq_look 37 1 rfl rfl rfl ?_) | refine dcell_ok rfl ?_ | refine AppC.new ?_))
  all_goals first | (with_reducible refine enters_mark ?_; kernel_rfl) | (with_reducible refine boolT_mark ?_; kernel_rfl) | rfl | trivial | assumption | exact Nat.le_of_ble_eq_true rfl | (show entersB _ _ = true; kernel_rfl) | exact DW.same _ rfl | exact DW.ref _ _ _ rfl | exact DW.arr _ _ _ rfl | refine DW.int ?_ | refine dvb ?_ | refine dvi ?_ | exact OW.cells rfl rfl (DWl.same rfl) | exact Nat.zero_le _ | omega | skip
  all_goals repeat' (first | refine OW.cells rfl rfl ?_ | exact DW.nilArr _ rfl | refine DWl.cons ?_ ?_ | exact DWl.nil | exact DW.same _ rfl | exact DW.ref _ _ _ rfl | exact DW.arr _ _ _ rfl | exact DW.sub _ _ _ _ rfl | exact DW.nilLst _ | refine DW.aggl ?_ | refine DW.tupl ?_ | refine DW.clol ?_ ?_)
  all_goals try ((conv => whnf); with_reducible first | refine Round.mark ?_ | refine Tells.mark ?_ | refine Retold.mark ?_)
  all_goals try first | (show (_ : Bool) = _; simp_all; done) | (show (_ : Int) < _; simp at *; omega) | (show (_ : Int) ≤ _; simp at *; omega) | (show (_ : Nat) < _; simp at *; omega) | (show (_ : Nat) ≤ _; simp at *; omega)
  conv => whnf
  refine Tri.range rfl (by kernel_rfl) rfl rfl (by rfl) (by kernel_rfl) fun lb => ?_
  repeat' (first | with_reducible rfl | ((conv => whnf); first | refine And.intro ?_ ?_ | (intro h; first | exact Bool.noConfusion h | with_reducible exact h | (refine not_t h ?_; rfl) | (refine not_f h ?_; rfl) | (have ht : true = true := h; clear ht h) | skip) | ((with_reducible refine DWl.mark ?_); repeat' (first | refine DWl.cons ?_ ?_ | exact DWl.nil | exact DW.same _ rfl | exact DW.ref _ _ _ rfl | exact DW.arr _ _ _ rfl | exact DW.sub _ _ _ _ rfl | exact DW.nilLst _ | refine DW.aggl ?_ | refine DW.tupl ?_ | refine DW.clol ?_ ?_ | refine DW.int ?_ | refine DW.bool ?_ | refine DW.str ?_)) | ((with_reducible refine SCall.mark ?_); first | refine SCall.run Try.func36 rfl (Nat.le_of_ble_eq_true rfl) (by kernel_rfl) ?_) | refine dcell_ok rfl ?_ | refine AppC.new ?_))
  all_goals first | (with_reducible refine enters_mark ?_; kernel_rfl) | (with_reducible refine boolT_mark ?_; kernel_rfl) | rfl | trivial | assumption | exact Nat.le_of_ble_eq_true rfl | (show entersB _ _ = true; kernel_rfl) | exact DW.same _ rfl | exact DW.ref _ _ _ rfl | exact DW.arr _ _ _ rfl | refine DW.int ?_ | refine dvb ?_ | refine dvi ?_ | exact OW.cells rfl rfl (DWl.same rfl) | exact Nat.zero_le _ | omega | skip
  all_goals repeat' (first | refine OW.cells rfl rfl ?_ | exact DW.nilArr _ rfl | refine DWl.cons ?_ ?_ | exact DWl.nil | exact DW.same _ rfl | exact DW.ref _ _ _ rfl | exact DW.arr _ _ _ rfl | exact DW.sub _ _ _ _ rfl | exact DW.nilLst _ | refine DW.aggl ?_ | refine DW.tupl ?_ | refine DW.clol ?_ ?_)
  all_goals try ((conv => whnf); with_reducible first | refine Round.mark ?_ | refine Tells.mark ?_ | refine Retold.mark ?_)
  all_goals try first | (show (_ : Bool) = _; simp_all; done) | (show (_ : Int) < _; simp at *; omega) | (show (_ : Int) ≤ _; simp at *; omega) | (show (_ : Nat) < _; simp at *; omega) | (show (_ : Nat) ≤ _; simp at *; omega)
  conv => whnf
  refine Tri.range rfl (by kernel_rfl) rfl rfl (by rfl) (by kernel_rfl) fun lb2 => ?_
  repeat' (first | with_reducible rfl | ((conv => whnf); first | refine And.intro ?_ ?_ | (intro h; first | exact Bool.noConfusion h | with_reducible exact h | (refine not_t h ?_; rfl) | (refine not_f h ?_; rfl) | (have ht : true = true := h; clear ht h) | skip) | ((with_reducible refine DWl.mark ?_); repeat' (first | refine DWl.cons ?_ ?_ | exact DWl.nil | exact DW.same _ rfl | exact DW.ref _ _ _ rfl | exact DW.arr _ _ _ rfl | exact DW.sub _ _ _ _ rfl | exact DW.nilLst _ | refine DW.aggl ?_ | refine DW.tupl ?_ | refine DW.clol ?_ ?_ | exact DW.pubM rfl rfl rfl rfl (linksRow _) rfl | exact DW.pubG rfl rfl rfl rfl rfl (linksRow _) rfl | exact DW.pubM rfl (List.length_map _).symm rfl rfl (linksRow _) rfl | exact DW.pubG rfl (List.length_map _).symm rfl rfl rfl (linksRow _) rfl | refine DW.int ?_ | refine DW.bool ?_ | refine DW.str ?_)) | ((with_reducible refine SCall.mark ?_); first | (refine SCall.scalT (deg22_D ring0 0) ?dwq rfl ?_; case dwq => (repeat' (first | refine DWl.cons ?_ ?_ | exact DWl.nil | exact DW.same _ rfl | exact DW.ref _ _ _ rfl | exact DW.arr _ _ _ rfl | exact DW.sub _ _ _ _ rfl | exact DW.nilLst _ | refine DW.aggl ?_ | refine DW.tupl ?_ | refine DW.clol ?_ ?_ | exact DW.pubM rfl rfl rfl rfl (linksRow _) rfl | exact DW.pubG rfl rfl rfl rfl rfl (linksRow _) rfl | exact DW.pubM rfl (List.length_map _).symm rfl rfl (linksRow _) rfl | exact DW.pubG rfl (List.length_map _).symm rfl rfl rfl (linksRow _) rfl | refine DW.int ?_ | refine DW.bool ?_ | refine DW.str ?_))) | (refine SCall.scalT (deg22_D ring0 1) ?dwq rfl ?_; case dwq => (repeat' (first | refine DWl.cons ?_ ?_ | exact DWl.nil | exact DW.same _ rfl | exact DW.ref _ _ _ rfl | exact DW.arr _ _ _ rfl | exact DW.sub _ _ _ _ rfl | exact DW.nilLst _ | refine DW.aggl ?_ | refine DW.tupl ?_ | refine DW.clol ?_ ?_ | exact DW.pubM rfl rfl rfl rfl (linksRow _) rfl | exact DW.pubG rfl rfl rfl rfl rfl (linksRow _) rfl | exact DW.pubM rfl (List.length_map _).symm rfl rfl (linksRow _) rfl | exact DW.pubG rfl (List.length_map _).symm rfl rfl rfl (linksRow _) rfl | refine DW.int ?_ | refine DW.bool ?_ | refine DW.str ?_))) | (refine SCall.scalT (deg22_D ring0 2) ?dwq rfl ?_; case dwq => (repeat' (first | refine DWl.cons ?_ ?_ | exact DWl.nil | exact DW.same _ rfl | exact DW.ref _ _ _ rfl | exact DW.arr _ _ _ rfl | exact DW.sub _ _ _ _ rfl | exact DW.nilLst _ | refine DW.aggl ?_ | refine DW.tupl ?_ | refine DW.clol ?_ ?_ | exact DW.pubM rfl rfl rfl rfl (linksRow _) rfl | exact DW.pubG rfl rfl rfl rfl rfl (linksRow _) rfl | exact DW.pubM rfl (List.length_map _).symm rfl rfl (linksRow _) rfl | exact DW.pubG rfl (List.length_map _).symm rfl rfl rfl (linksRow _) rfl | refine DW.int ?_ | refine DW.bool ?_ | refine DW.str ?_))) | (refine SCall.scalT (deg22_D ring0 3) ?dwq rfl ?_; case dwq => (repeat' (first | refine DWl.cons ?_ ?_ | exact DWl.nil | exact DW.same _ rfl | exact DW.ref _ _ _ rfl | exact DW.arr _ _ _ rfl | exact DW.sub _ _ _ _ rfl | exact DW.nilLst _ | refine DW.aggl ?_ | refine DW.tupl ?_ | refine DW.clol ?_ ?_ | exact DW.pubM rfl rfl rfl rfl (linksRow _) rfl | exact DW.pubG rfl rfl rfl rfl rfl (linksRow _) rfl | exact DW.pubM rfl (List.length_map _).symm rfl rfl (linksRow _) rfl | exact DW.pubG rfl (List.length_map _).symm rfl rfl rfl (linksRow _) rfl | refine DW.int ?_ | refine DW.bool ?_ | refine DW.str ?_))) | refine sort29 (l := ringF) rfl rfl (by decide) (by decide) ?_) | ((with_reducible refine GCall.mark ?_); first | (refine GCall.scalT (fun _ => deg22_D ring0 0) ?dwq rfl ?_; case dwq => (intro _; repeat' (first | refine DWl.cons ?_ ?_ | exact DWl.nil | exact DW.same _ rfl | exact DW.ref _ _ _ rfl | exact DW.arr _ _ _ rfl | exact DW.sub _ _ _ _ rfl | exact DW.nilLst _ | refine DW.aggl ?_ | refine DW.tupl ?_ | refine DW.clol ?_ ?_ | exact DW.pubM rfl rfl rfl rfl (linksRow _) rfl | exact DW.pubG rfl rfl rfl rfl rfl (linksRow _) rfl | exact DW.pubM rfl (List.length_map _).symm rfl rfl (linksRow _) rfl | exact DW.pubG rfl (List.length_map _).symm rfl rfl rfl (linksRow _) rfl | refine DW.int ?_ | refine DW.bool ?_ | refine DW.str ?_))) | (refine GCall.scalT (fun _ => deg22_D ring0 1) ?dwq rfl ?_; case dwq => (intro _; repeat' (first | refine DWl.cons ?_ ?_ | exact DWl.nil | exact DW.same _ rfl | exact DW.ref _ _ _ rfl | exact DW.arr _ _ _ rfl | exact DW.sub _ _ _ _ rfl | exact DW.nilLst _ | refine DW.aggl ?_ | refine DW.tupl ?_ | refine DW.clol ?_ ?_ | exact DW.pubM rfl rfl rfl rfl (linksRow _) rfl | exact DW.pubG rfl rfl rfl rfl rfl (linksRow _) rfl | exact DW.pubM rfl (List.length_map _).symm rfl rfl (linksRow _) rfl | exact DW.pubG rfl (List.length_map _).symm rfl rfl rfl (linksRow _) rfl | refine DW.int ?_ | refine DW.bool ?_ | refine DW.str ?_))) | (refine GCall.scalT (fun _ => deg22_D ring0 2) ?dwq rfl ?_; case dwq => (intro _; repeat' (first | refine DWl.cons ?_ ?_ | exact DWl.nil | exact DW.same _ rfl | exact DW.ref _ _ _ rfl | exact DW.arr _ _ _ rfl | exact DW.sub _ _ _ _ rfl | exact DW.nilLst _ | refine DW.aggl ?_ | refine DW.tupl ?_ | refine DW.clol ?_ ?_ | exact DW.pubM rfl rfl rfl rfl (linksRow _) rfl | exact DW.pubG rfl rfl rfl rfl rfl (linksRow _) rfl | exact DW.pubM rfl (List.length_map _).symm rfl rfl (linksRow _) rfl | exact DW.pubG rfl (List.length_map _).symm rfl rfl rfl (linksRow _) rfl | refine DW.int ?_ | refine DW.bool ?_ | refine DW.str ?_))) | (refine GCall.scalT (fun _ => deg22_D ring0 3) ?dwq rfl ?_; case dwq => (intro _; repeat' (first | refine DWl.cons ?_ ?_ | exact DWl.nil | exact DW.same _ rfl | exact DW.ref _ _ _ rfl | exact DW.arr _ _ _ rfl | exact DW.sub _ _ _ _ rfl | exact DW.nilLst _ | refine DW.aggl ?_ | refine DW.tupl ?_ | refine DW.clol ?_ ?_ | exact DW.pubM rfl rfl rfl rfl (linksRow _) rfl | exact DW.pubG rfl rfl rfl rfl rfl (linksRow _) rfl | exact DW.pubM rfl (List.length_map _).symm rfl rfl (linksRow _) rfl | exact DW.pubG rfl (List.length_map _).symm rfl rfl rfl (linksRow _) rfl | refine DW.int ?_ | refine DW.bool ?_ | refine DW.str ?_)))) | ((with_reducible refine Tri.mark ?_); first | refine Tri.rounds 9 (by kernel_rfl) ?_) | refine dcell_ok rfl ?_ | refine AppC.new ?_))
  all_goals first | (with_reducible refine enters_mark ?_; kernel_rfl) | (with_reducible refine boolT_mark ?_; kernel_rfl) | rfl | trivial | assumption | exact Nat.le_of_ble_eq_true rfl | (show entersB _ _ = true; kernel_rfl) | exact DW.same _ rfl | exact DW.ref _ _ _ rfl | exact DW.arr _ _ _ rfl | refine DW.int ?_ | refine dvb ?_ | refine dvi ?_ | exact OW.cells rfl rfl (DWl.same rfl) | exact Nat.zero_le _ | omega | skip
  all_goals repeat' (first | refine OW.cells rfl rfl ?_ | exact DW.nilArr _ rfl | refine DWl.cons ?_ ?_ | exact DWl.nil | exact DW.same _ rfl | exact DW.ref _ _ _ rfl | exact DW.arr _ _ _ rfl | exact DW.sub _ _ _ _ rfl | exact DW.nilLst _ | refine DW.aggl ?_ | refine DW.tupl ?_ | refine DW.clol ?_ ?_ | exact DW.pubM rfl rfl rfl rfl (linksRow _) rfl | exact DW.pubG rfl rfl rfl rfl rfl (linksRow _) rfl | exact DW.pubM rfl (List.length_map _).symm rfl rfl (linksRow _) rfl | exact DW.pubG rfl (List.length_map _).symm rfl rfl rfl (linksRow _) rfl)
  all_goals try ((conv => whnf); with_reducible first | refine Round.mark ?_ | refine Tells.mark ?_ | refine Retold.mark ?_)
  all_goals try first | (show (_ : Bool) = _; simp_all; done) | (show (_ : Int) < _; simp at *; omega) | (show (_ : Int) ≤ _; simp at *; omega) | (show (_ : Nat) < _; simp at *; omega) | (show (_ : Nat) ≤ _; simp at *; omega)
  conv => whnf
  refine Tells.mk (DW.tupl (DWl.cons (DW.pubM rfl rfl rfl rfl (linksRow _) ?_) (DWl.cons (DW.same _ rfl) DWl.nil)))
  show (((sortF ringF).map lkF).map linkD).flatten = (ring4.map linkD).flatten
  rw [ring_sorted]
end Go.Proofs.Ytphgcgggbbcjgaa

/- The first number of seed 0. -/
namespace Go.Proofs.Ytphgcgggbbcjgaa
open Go.RowKit Go.Dl
attribute [local irreducible] Tri SCall DFun QSem PCall GCall MCall Round Weak dloadE OW DWl Tells Retold ESem
set_option maxRecDepth 100000 in
set_option maxHeartbeats 1000000 in
theorem rand1_D : DPure Try.prog 11 [.v (.int .u64 0), int1 1] (.v (.int .u64 167951807)) := by
  refine DFun.data (DFun.body Try.func11 rfl (by kernel_rfl) ?_)
  repeat' (first | with_reducible rfl | ((conv => whnf); first | refine And.intro ?_ ?_ | (intro h; first | exact Bool.noConfusion h | with_reducible exact h | (refine not_t h ?_; rfl) | (refine not_f h ?_; rfl) | (have ht : true = true := h; clear ht h) | skip) | ((with_reducible refine DWl.mark ?_); repeat' (first | refine DWl.cons ?_ ?_ | exact DWl.nil | exact DW.same _ rfl | exact DW.ref _ _ _ rfl | exact DW.arr _ _ _ rfl | exact DW.sub _ _ _ _ rfl | exact DW.nilLst _ | refine DW.aggl ?_ | refine DW.tupl ?_ | refine DW.clol ?_ ?_ | refine DW.int ?_ | refine DW.bool ?_ | refine DW.str ?_)) | ((with_reducible refine SCall.mark ?_); first | refine SCall.run Try.func32 rfl (Nat.le_of_ble_eq_true rfl) (by kernel_rfl) ?_) | refine dcell_ok rfl ?_ | refine AppC.new ?_))
  all_goals first | (with_reducible refine enters_mark ?_; kernel_rfl) | (with_reducible refine boolT_mark ?_; kernel_rfl) | rfl | trivial | assumption | exact Nat.le_of_ble_eq_true rfl | (show entersB _ _ = true; kernel_rfl) | exact DW.same _ rfl | exact DW.ref _ _ _ rfl | exact DW.arr _ _ _ rfl | refine DW.int ?_ | refine dvb ?_ | refine dvi ?_ | exact OW.cells rfl rfl (DWl.same rfl) | exact Nat.zero_le _ | omega | skip
  all_goals repeat' (first | refine OW.cells rfl rfl ?_ | exact DW.nilArr _ rfl | refine DWl.cons ?_ ?_ | exact DWl.nil | exact DW.same _ rfl | exact DW.ref _ _ _ rfl | exact DW.arr _ _ _ rfl | exact DW.sub _ _ _ _ rfl | exact DW.nilLst _ | refine DW.aggl ?_ | refine DW.tupl ?_ | refine DW.clol ?_ ?_)
  all_goals try ((conv => whnf); with_reducible first | refine Round.mark ?_ | refine Tells.mark ?_ | refine Retold.mark ?_)
  all_goals try first | (show (_ : Bool) = _; simp_all; done) | (show (_ : Int) < _; simp at *; omega) | (show (_ : Int) ≤ _; simp at *; omega) | (show (_ : Nat) < _; simp at *; omega) | (show (_ : Nat) ≤ _; simp at *; omega)
  conv => whnf
  refine Tri.range rfl (by kernel_rfl) rfl rfl (by rfl) (by kernel_rfl) fun lb => ?_
  repeat' (first | with_reducible rfl | ((conv => whnf); first | refine And.intro ?_ ?_ | (intro h; first | exact Bool.noConfusion h | with_reducible exact h | (refine not_t h ?_; rfl) | (refine not_f h ?_; rfl) | (have ht : true = true := h; clear ht h) | skip) | ((with_reducible refine DWl.mark ?_); repeat' (first | refine DWl.cons ?_ ?_ | exact DWl.nil | exact DW.same _ rfl | exact DW.ref _ _ _ rfl | exact DW.arr _ _ _ rfl | exact DW.sub _ _ _ _ rfl | exact DW.nilLst _ | refine DW.aggl ?_ | refine DW.tupl ?_ | refine DW.clol ?_ ?_ | refine DW.int ?_ | refine DW.bool ?_ | refine DW.str ?_)) | ((with_reducible refine Tri.mark ?_); first | refine Tri.rounds 2 (by kernel_rfl) ?_) | refine dcell_ok rfl ?_ | refine AppC.new ?_))
  all_goals first | (with_reducible refine enters_mark ?_; kernel_rfl) | (with_reducible refine boolT_mark ?_; kernel_rfl) | rfl | trivial | assumption | exact Nat.le_of_ble_eq_true rfl | (show entersB _ _ = true; kernel_rfl) | exact DW.same _ rfl | exact DW.ref _ _ _ rfl | exact DW.arr _ _ _ rfl | refine DW.int ?_ | refine dvb ?_ | refine dvi ?_ | exact OW.cells rfl rfl (DWl.same rfl) | exact Nat.zero_le _ | omega | skip
  all_goals repeat' (first | refine OW.cells rfl rfl ?_ | exact DW.nilArr _ rfl | refine DWl.cons ?_ ?_ | exact DWl.nil | exact DW.same _ rfl | exact DW.ref _ _ _ rfl | exact DW.arr _ _ _ rfl | exact DW.sub _ _ _ _ rfl | exact DW.nilLst _ | refine DW.aggl ?_ | refine DW.tupl ?_ | refine DW.clol ?_ ?_)
  all_goals try ((conv => whnf); with_reducible first | refine Round.mark ?_ | refine Tells.mark ?_ | refine Retold.mark ?_)
  all_goals try first | (show (_ : Bool) = _; simp_all; done) | (show (_ : Int) < _; simp at *; omega) | (show (_ : Int) ≤ _; simp at *; omega) | (show (_ : Nat) < _; simp at *; omega) | (show (_ : Nat) ≤ _; simp at *; omega)
  conv => whnf
  exact Tells.mk (DW.int (by rfl))
end Go.Proofs.Ytphgcgggbbcjgaa

/- The chapter's examples. -/
namespace Go.Proofs.Ytphgcgggbbcjgaa
open Go.RowKit Go.Dl
attribute [local irreducible] Tri SCall DFun QSem PCall GCall MCall Round Weak dloadE OW DWl Tells IntKind.wrap Retold ESem
theorem ring_in : inN 4 ring4 := by
  intro i hi
  have hi : i < 4 := hi
  match i, hi with
  | 0, _ => decide
  | 1, _ => decide
  | 2, _ => decide
  | 3, _ => decide
set_option maxRecDepth 100000 in
theorem ring_width : widthT 4 ring4 = 2 := by decide
theorem width_ring : DPure Try.prog 20 [int1 4, links ring4] (int1 2) := by
  have h := width20_D 4 ring4 (by decide) ring_in
  rw [ring_width] at h
  exact h
set_option maxRecDepth 100000 in
theorem awake13_D : DPure Try.prog 13 [] (.v (.bool true)) := by
  refine DFun.body Try.func13 rfl (by kernel_rfl) ?_
  repeat' (first | with_reducible rfl | ((conv => whnf); first | refine And.intro ?_ ?_ | (intro h; first | exact Bool.noConfusion h | with_reducible exact h | (exfalso; simp at h; done) | (have ht : true = true := h; clear ht h) | skip) | ((with_reducible refine DWl.mark ?_); repeat' (first | refine DWl.cons ?_ ?_ | exact DWl.nil | exact DW.same _ rfl | exact DW.ref _ _ _ rfl | exact DW.arr _ _ _ rfl | exact DW.sub _ _ _ _ rfl | exact DW.nilLst _ | refine DW.aggl ?_ | refine DW.tupl ?_ | refine DW.clol ?_ ?_ | refine DW.int ?_ | refine DW.bool ?_ | refine DW.str ?_)) | ((with_reducible refine SCall.mark ?_); first | refine SCall.data (ring4_D) rfl rfl ?_ | refine SCall.data (star8_D) rfl rfl ?_ | refine SCall.data (same_D ring4 ring4) rfl rfl ?_ | refine SCall.scal (same_D ring4 ring4) rfl rfl ?_ | refine SCall.data (rand1_D) rfl rfl ?_ | refine SCall.scal (rand1_D) rfl rfl ?_ | refine SCall.data (width_ring) rfl rfl ?_ | refine SCall.scal (width_ring) rfl rfl ?_) | ((with_reducible refine PCall.mark ?_); first | refine PCall.mk (same_D ring4 ring4) rfl rfl ?_ | refine PCall.mk (rand1_D) rfl rfl ?_ | refine PCall.mk (width_ring) rfl rfl ?_) | ((with_reducible refine GCall.mark ?_); first | refine GCall.data (fun _ => ring4_D) rfl rfl ?_ | refine GCall.data (fun _ => star8_D) rfl rfl ?_ | refine GCall.data (fun _ => same_D ring4 ring4) rfl rfl ?_ | refine GCall.scal (fun _ => same_D ring4 ring4) rfl rfl ?_ | refine GCall.data (fun _ => rand1_D) rfl rfl ?_ | refine GCall.scal (fun _ => rand1_D) rfl rfl ?_ | refine GCall.data (fun _ => width_ring) rfl rfl ?_ | refine GCall.scal (fun _ => width_ring) rfl rfl ?_) | ((with_reducible refine MCall.mark ?_); first | refine MCall.data (fun _ => ring4_D) rfl rfl ?_ | refine MCall.data (fun _ => star8_D) rfl rfl ?_ | refine MCall.data (fun _ => same_D ring4 ring4) rfl rfl ?_ | refine MCall.plain (PCall.mk (same_D ring4 ring4) rfl rfl ?_) | refine MCall.data (fun _ => rand1_D) rfl rfl ?_ | refine MCall.plain (PCall.mk (rand1_D) rfl rfl ?_) | refine MCall.data (fun _ => width_ring) rfl rfl ?_ | refine MCall.plain (PCall.mk (width_ring) rfl rfl ?_)) | refine dcell_ok rfl ?_ | refine AppC.new ?_))
  all_goals first | (with_reducible refine enters_mark ?_; kernel_rfl) | (with_reducible refine boolT_mark ?_; kernel_rfl) | rfl | trivial | assumption | exact Nat.le_of_ble_eq_true rfl | (show entersB _ _ = true; kernel_rfl) | exact DW.same _ rfl | exact DW.ref _ _ _ rfl | exact DW.arr _ _ _ rfl | refine DW.int ?_ | refine dvb ?_ | refine dvi ?_ | exact OW.cells rfl rfl (DWl.same rfl) | exact Nat.zero_le _ | omega | skip
  all_goals repeat' (first | refine OW.cells rfl rfl ?_ | exact DW.nilArr _ rfl | refine DWl.cons ?_ ?_ | exact DWl.nil | exact DW.same _ rfl | exact DW.ref _ _ _ rfl | exact DW.arr _ _ _ rfl | exact DW.sub _ _ _ _ rfl | exact DW.nilLst _ | refine DW.aggl ?_ | refine DW.tupl ?_ | refine DW.clol ?_ ?_)
  all_goals try ((conv => whnf); with_reducible first | refine Round.mark ?_ | refine Tells.mark ?_ | refine Retold.mark ?_)
  all_goals try first | (show (_ : Bool) = _; simp_all; done) | (show (_ : Int) < _; simp at *; omega) | (show (_ : Int) ≤ _; simp at *; omega) | (show (_ : Nat) < _; simp at *; omega) | (show (_ : Nat) ≤ _; simp at *; omega)
end Go.Proofs.Ytphgcgggbbcjgaa

/- The law of what is told of pairs. -/
namespace Go.Proofs.Ytphgcgggbbcjgaa
open Go.RowKit Go.Dl
attribute [local irreducible] Tri SCall DFun QSem PCall GCall MCall Round Weak dloadE OW DWl Tells IntKind.wrap Retold ESem

theorem fit_inN {n : Nat} {l : List Lk} (h : fitB n l = true) : inN n l := fun i hi => by
  have := okL_iff.1 ((fitB_iff.1 h).2.2.1 i hi)
  omega
theorem dist18_Q (n : Nat) (l : List Lk) (f : Int) (hn : n ≤ 1000) (hl : inN n l) : DFun Try.prog 18 [int1 n, links l, int1 f] fun r s => r = .arr 0 n ∧ s = .of [(0, ⟨3, 1, rowC (distT n l f)⟩)] 1 := dist18_O n l f hn hl
theorem parts19_Q (n : Nat) (l : List Lk) (hn : n ≤ 1000) (hl : inN n l) : DFun Try.prog 19 [int1 n, links l] fun r s => r = .arr 0 n ∧ s = .of [(0, ⟨3, 1, rowC (partsT n l)⟩)] 1 := parts19_O n l hn hl
attribute [local irreducible] rowC distT partsT widthT degT
set_option maxRecDepth 100000 in
set_option maxHeartbeats 1000000 in
theorem tells6_D (n : Int) (l : List Lk) (f : Int) : DPure Try.prog 6 [int1 n, links l, int1 f] (.v (.bool true)) := by
  have hF := fit14_D n l
  have hG := fit21_D n l
  cases hfit : fitB n l with
  | false =>
    rw [hfit] at hF hG
    refine DFun.body Try.func6 rfl (by kernel_rfl) ?_
    repeat' (first | with_reducible rfl | ((conv => whnf); first | refine And.intro ?_ ?_ | (intro h; first | exact Bool.noConfusion h | with_reducible exact h | (exfalso; simp at h; done) | (have ht : true = true := h; clear ht h) | skip) | ((with_reducible refine DWl.mark ?_); repeat' (first | refine DWl.cons ?_ ?_ | exact DWl.nil | exact DW.same _ rfl | exact DW.ref _ _ _ rfl | exact DW.arr _ _ _ rfl | exact DW.sub _ _ _ _ rfl | exact DW.nilLst _ | refine DW.aggl ?_ | refine DW.tupl ?_ | refine DW.clol ?_ ?_ | refine DW.int ?_ | refine DW.bool ?_ | refine DW.str ?_)) | ((with_reducible refine SCall.mark ?_); first | refine SCall.data (hF) rfl rfl ?_ | refine SCall.data (hG) rfl rfl ?_ | refine SCall.data (awake13_D) rfl rfl ?_ | refine SCall.scal (awake13_D) rfl rfl ?_) | ((with_reducible refine PCall.mark ?_); first | refine PCall.mk (awake13_D) rfl rfl ?_) | ((with_reducible refine GCall.mark ?_); first | refine GCall.data (fun _ => hF) rfl rfl ?_ | refine GCall.data (fun _ => hG) rfl rfl ?_ | refine GCall.data (fun _ => awake13_D) rfl rfl ?_ | refine GCall.scal (fun _ => awake13_D) rfl rfl ?_) | ((with_reducible refine MCall.mark ?_); first | refine MCall.data (fun _ => hF) rfl rfl ?_ | refine MCall.data (fun _ => hG) rfl rfl ?_ | refine MCall.data (fun _ => awake13_D) rfl rfl ?_ | refine MCall.plain (PCall.mk (awake13_D) rfl rfl ?_)) | refine dcell_ok rfl ?_ | refine AppC.new ?_))
    all_goals first | (with_reducible refine enters_mark ?_; kernel_rfl) | (with_reducible refine boolT_mark ?_; kernel_rfl) | rfl | trivial | assumption | exact Nat.le_of_ble_eq_true rfl | (show entersB _ _ = true; kernel_rfl) | exact DW.same _ rfl | exact DW.ref _ _ _ rfl | exact DW.arr _ _ _ rfl | refine DW.int ?_ | refine dvb ?_ | refine dvi ?_ | exact OW.cells rfl rfl (DWl.same rfl) | exact Nat.zero_le _ | omega | skip
    all_goals repeat' (first | refine OW.cells rfl rfl ?_ | exact DW.nilArr _ rfl | refine DWl.cons ?_ ?_ | exact DWl.nil | exact DW.same _ rfl | exact DW.ref _ _ _ rfl | exact DW.arr _ _ _ rfl | exact DW.sub _ _ _ _ rfl | exact DW.nilLst _ | refine DW.aggl ?_ | refine DW.tupl ?_ | refine DW.clol ?_ ?_)
    all_goals try ((conv => whnf); with_reducible first | refine Round.mark ?_ | refine Tells.mark ?_ | refine Retold.mark ?_)
    all_goals try first | (show (_ : Bool) = _; simp_all; done) | (show (_ : Int) < _; simp at *; omega) | (show (_ : Int) ≤ _; simp at *; omega) | (show (_ : Nat) < _; simp at *; omega) | (show (_ : Nat) ≤ _; simp at *; omega)
  | true =>
    rw [hfit] at hF hG
    obtain ⟨h1, h2, h3, h4⟩ := fitB_iff.1 hfit
    obtain ⟨m, rfl⟩ := Int.eq_ofNat_of_zero_le (show 0 ≤ n by omega)
    have hl := fit_inN hfit
    have hm : m ≤ 1000 := by omega
    have hlen : l.length ≤ 1000 := by
      have h5 := len_sq (by omega) h3
      have h6 : (m : Int) * m ≤ 16 * m := Int.mul_le_mul_of_nonneg_right h2 (by omega)
      omega
    have hD1 := ints_D (distT m l f) (distT m l f)
    rw [decide_eq_true rfl] at hD1
    have hP1 := ints_D (partsT m l) (partsT m l)
    rw [decide_eq_true rfl] at hP1
    have hS := same_D l l
    rw [decide_eq_true rfl] at hS
    have hDp : 0 < (rowC (distT m l f)).length := by rw [rowC_len, distT_len]; omega
    have hPp : 0 < (rowC (partsT m l)).length := by rw [rowC_len, partsT_len]; omega
    refine DFun.body Try.func6 rfl (by kernel_rfl) ?_
    repeat' (first | with_reducible rfl | ((conv => whnf); first | refine And.intro ?_ ?_ | (intro h; first | exact Bool.noConfusion h | with_reducible exact h | (exfalso; simp at h; done) | (have ht : true = true := h; clear ht h) | skip) | ((with_reducible refine DWl.mark ?_); repeat' (first | refine DWl.cons ?_ ?_ | exact DWl.nil | exact DW.same _ rfl | exact DW.ref _ _ _ rfl | exact DW.arr _ _ _ rfl | exact DW.sub _ _ _ _ rfl | exact DW.nilLst _ | refine DW.aggl ?_ | refine DW.tupl ?_ | refine DW.clol ?_ ?_ | exact DW.pubM rfl rfl rfl rfl (linksRow l) rfl | exact DW.pubG rfl rfl rfl rfl rfl (linksRow l) rfl | exact DW.pubM rfl (List.length_map _).symm rfl rfl (linksRow l) rfl | exact DW.pubG rfl (List.length_map _).symm rfl rfl rfl (linksRow l) rfl | exact DW.pubM rfl (distT_len m l f) rfl rfl (intsRow _) (rowC_eq _) | exact DW.pubM rfl (partsT_len m l) rfl rfl (intsRow _) (rowC_eq _) | refine DW.int ?_ | refine DW.bool ?_ | refine DW.str ?_)) | ((with_reducible refine SCall.mark ?_); first | refine SCall.data (hF) rfl rfl ?_ | refine SCall.data (hG) rfl rfl ?_ | (refine SCall.scalT (deg22_D l f) ?dwq rfl ?_; case dwq => (repeat' (first | refine DWl.cons ?_ ?_ | exact DWl.nil | exact DW.same _ rfl | exact DW.ref _ _ _ rfl | exact DW.arr _ _ _ rfl | exact DW.sub _ _ _ _ rfl | exact DW.nilLst _ | refine DW.aggl ?_ | refine DW.tupl ?_ | refine DW.clol ?_ ?_ | exact DW.pubM rfl rfl rfl rfl (linksRow l) rfl | exact DW.pubG rfl rfl rfl rfl rfl (linksRow l) rfl | exact DW.pubM rfl (List.length_map _).symm rfl rfl (linksRow l) rfl | exact DW.pubG rfl (List.length_map _).symm rfl rfl rfl (linksRow l) rfl | exact DW.pubM rfl (distT_len m l f) rfl rfl (intsRow _) (rowC_eq _) | exact DW.pubM rfl (partsT_len m l) rfl rfl (intsRow _) (rowC_eq _) | refine DW.int ?_ | refine DW.bool ?_ | refine DW.str ?_))) | refine SCall.data (deg23_D l f) rfl rfl ?_ | refine SCall.scal (deg23_D l f) rfl rfl ?_ | refine SCall.data (dist25_D m l f hm hl) rfl rfl ?_ | refine SCall.scal (dist25_D m l f hm hl) rfl rfl ?_ | refine SCall.data (parts26_D m l hm hl) rfl rfl ?_ | refine SCall.scal (parts26_D m l hm hl) rfl rfl ?_ | refine SCall.data (width27_D m l hm hl) rfl rfl ?_ | refine SCall.scal (width27_D m l hm hl) rfl rfl ?_ | (refine SCall.scalT (width20_D m l hm hl) ?dwq rfl ?_; case dwq => (repeat' (first | refine DWl.cons ?_ ?_ | exact DWl.nil | exact DW.same _ rfl | exact DW.ref _ _ _ rfl | exact DW.arr _ _ _ rfl | exact DW.sub _ _ _ _ rfl | exact DW.nilLst _ | refine DW.aggl ?_ | refine DW.tupl ?_ | refine DW.clol ?_ ?_ | exact DW.pubM rfl rfl rfl rfl (linksRow l) rfl | exact DW.pubG rfl rfl rfl rfl rfl (linksRow l) rfl | exact DW.pubM rfl (List.length_map _).symm rfl rfl (linksRow l) rfl | exact DW.pubG rfl (List.length_map _).symm rfl rfl rfl (linksRow l) rfl | exact DW.pubM rfl (distT_len m l f) rfl rfl (intsRow _) (rowC_eq _) | exact DW.pubM rfl (partsT_len m l) rfl rfl (intsRow _) (rowC_eq _) | refine DW.int ?_ | refine DW.bool ?_ | refine DW.str ?_))) | (refine SCall.scalT (hD1) ?dwq rfl ?_; case dwq => (repeat' (first | refine DWl.cons ?_ ?_ | exact DWl.nil | exact DW.same _ rfl | exact DW.ref _ _ _ rfl | exact DW.arr _ _ _ rfl | exact DW.sub _ _ _ _ rfl | exact DW.nilLst _ | refine DW.aggl ?_ | refine DW.tupl ?_ | refine DW.clol ?_ ?_ | exact DW.pubM rfl rfl rfl rfl (linksRow l) rfl | exact DW.pubG rfl rfl rfl rfl rfl (linksRow l) rfl | exact DW.pubM rfl (List.length_map _).symm rfl rfl (linksRow l) rfl | exact DW.pubG rfl (List.length_map _).symm rfl rfl rfl (linksRow l) rfl | exact DW.pubM rfl (distT_len m l f) rfl rfl (intsRow _) (rowC_eq _) | exact DW.pubM rfl (partsT_len m l) rfl rfl (intsRow _) (rowC_eq _) | refine DW.int ?_ | refine DW.bool ?_ | refine DW.str ?_))) | (refine SCall.scalT (hP1) ?dwq rfl ?_; case dwq => (repeat' (first | refine DWl.cons ?_ ?_ | exact DWl.nil | exact DW.same _ rfl | exact DW.ref _ _ _ rfl | exact DW.arr _ _ _ rfl | exact DW.sub _ _ _ _ rfl | exact DW.nilLst _ | refine DW.aggl ?_ | refine DW.tupl ?_ | refine DW.clol ?_ ?_ | exact DW.pubM rfl rfl rfl rfl (linksRow l) rfl | exact DW.pubG rfl rfl rfl rfl rfl (linksRow l) rfl | exact DW.pubM rfl (List.length_map _).symm rfl rfl (linksRow l) rfl | exact DW.pubG rfl (List.length_map _).symm rfl rfl rfl (linksRow l) rfl | exact DW.pubM rfl (distT_len m l f) rfl rfl (intsRow _) (rowC_eq _) | exact DW.pubM rfl (partsT_len m l) rfl rfl (intsRow _) (rowC_eq _) | refine DW.int ?_ | refine DW.bool ?_ | refine DW.str ?_))) | (refine SCall.scalT (hS) ?dwq rfl ?_; case dwq => (repeat' (first | refine DWl.cons ?_ ?_ | exact DWl.nil | exact DW.same _ rfl | exact DW.ref _ _ _ rfl | exact DW.arr _ _ _ rfl | exact DW.sub _ _ _ _ rfl | exact DW.nilLst _ | refine DW.aggl ?_ | refine DW.tupl ?_ | refine DW.clol ?_ ?_ | exact DW.pubM rfl rfl rfl rfl (linksRow l) rfl | exact DW.pubG rfl rfl rfl rfl rfl (linksRow l) rfl | exact DW.pubM rfl (List.length_map _).symm rfl rfl (linksRow l) rfl | exact DW.pubG rfl (List.length_map _).symm rfl rfl rfl (linksRow l) rfl | exact DW.pubM rfl (distT_len m l f) rfl rfl (intsRow _) (rowC_eq _) | exact DW.pubM rfl (partsT_len m l) rfl rfl (intsRow _) (rowC_eq _) | refine DW.int ?_ | refine DW.bool ?_ | refine DW.str ?_))) | refine SCall.data (awake13_D) rfl rfl ?_ | refine SCall.scal (awake13_D) rfl rfl ?_) | ((with_reducible refine PCall.mark ?_); first | refine PCall.mk (deg23_D l f) rfl rfl ?_ | refine PCall.mk (dist25_D m l f hm hl) rfl rfl ?_ | refine PCall.mk (parts26_D m l hm hl) rfl rfl ?_ | refine PCall.mk (width27_D m l hm hl) rfl rfl ?_ | refine PCall.mk (awake13_D) rfl rfl ?_) | ((with_reducible refine GCall.mark ?_); first | refine GCall.data (fun _ => hF) rfl rfl ?_ | refine GCall.data (fun _ => hG) rfl rfl ?_ | (refine GCall.scalT (fun _ => deg22_D l f) ?dwq rfl ?_; case dwq => (intro _; repeat' (first | refine DWl.cons ?_ ?_ | exact DWl.nil | exact DW.same _ rfl | exact DW.ref _ _ _ rfl | exact DW.arr _ _ _ rfl | exact DW.sub _ _ _ _ rfl | exact DW.nilLst _ | refine DW.aggl ?_ | refine DW.tupl ?_ | refine DW.clol ?_ ?_ | exact DW.pubM rfl rfl rfl rfl (linksRow l) rfl | exact DW.pubG rfl rfl rfl rfl rfl (linksRow l) rfl | exact DW.pubM rfl (List.length_map _).symm rfl rfl (linksRow l) rfl | exact DW.pubG rfl (List.length_map _).symm rfl rfl rfl (linksRow l) rfl | exact DW.pubM rfl (distT_len m l f) rfl rfl (intsRow _) (rowC_eq _) | exact DW.pubM rfl (partsT_len m l) rfl rfl (intsRow _) (rowC_eq _) | refine DW.int ?_ | refine DW.bool ?_ | refine DW.str ?_))) | refine GCall.data (fun _ => deg23_D l f) rfl rfl ?_ | refine GCall.scal (fun _ => deg23_D l f) rfl rfl ?_ | refine GCall.split (fun _ => SCall.fresh (dist18_Q m l f hm hl) ?_ (rowC_scal _) hDp ?_) ?_ | refine GCall.split (fun _ => SCall.fresh (parts19_Q m l hm hl) ?_ (rowC_scal _) hPp ?_) ?_ | refine GCall.data (fun _ => dist25_D m l f hm hl) rfl rfl ?_ | refine GCall.scal (fun _ => dist25_D m l f hm hl) rfl rfl ?_ | refine GCall.data (fun _ => parts26_D m l hm hl) rfl rfl ?_ | refine GCall.scal (fun _ => parts26_D m l hm hl) rfl rfl ?_ | refine GCall.data (fun _ => width27_D m l hm hl) rfl rfl ?_ | refine GCall.scal (fun _ => width27_D m l hm hl) rfl rfl ?_ | (refine GCall.scalT (fun _ => width20_D m l hm hl) ?dwq rfl ?_; case dwq => (intro _; repeat' (first | refine DWl.cons ?_ ?_ | exact DWl.nil | exact DW.same _ rfl | exact DW.ref _ _ _ rfl | exact DW.arr _ _ _ rfl | exact DW.sub _ _ _ _ rfl | exact DW.nilLst _ | refine DW.aggl ?_ | refine DW.tupl ?_ | refine DW.clol ?_ ?_ | exact DW.pubM rfl rfl rfl rfl (linksRow l) rfl | exact DW.pubG rfl rfl rfl rfl rfl (linksRow l) rfl | exact DW.pubM rfl (List.length_map _).symm rfl rfl (linksRow l) rfl | exact DW.pubG rfl (List.length_map _).symm rfl rfl rfl (linksRow l) rfl | exact DW.pubM rfl (distT_len m l f) rfl rfl (intsRow _) (rowC_eq _) | exact DW.pubM rfl (partsT_len m l) rfl rfl (intsRow _) (rowC_eq _) | refine DW.int ?_ | refine DW.bool ?_ | refine DW.str ?_))) | (refine GCall.scalT (fun _ => hD1) ?dwq rfl ?_; case dwq => (intro _; repeat' (first | refine DWl.cons ?_ ?_ | exact DWl.nil | exact DW.same _ rfl | exact DW.ref _ _ _ rfl | exact DW.arr _ _ _ rfl | exact DW.sub _ _ _ _ rfl | exact DW.nilLst _ | refine DW.aggl ?_ | refine DW.tupl ?_ | refine DW.clol ?_ ?_ | exact DW.pubM rfl rfl rfl rfl (linksRow l) rfl | exact DW.pubG rfl rfl rfl rfl rfl (linksRow l) rfl | exact DW.pubM rfl (List.length_map _).symm rfl rfl (linksRow l) rfl | exact DW.pubG rfl (List.length_map _).symm rfl rfl rfl (linksRow l) rfl | exact DW.pubM rfl (distT_len m l f) rfl rfl (intsRow _) (rowC_eq _) | exact DW.pubM rfl (partsT_len m l) rfl rfl (intsRow _) (rowC_eq _) | refine DW.int ?_ | refine DW.bool ?_ | refine DW.str ?_))) | (refine GCall.scalT (fun _ => hP1) ?dwq rfl ?_; case dwq => (intro _; repeat' (first | refine DWl.cons ?_ ?_ | exact DWl.nil | exact DW.same _ rfl | exact DW.ref _ _ _ rfl | exact DW.arr _ _ _ rfl | exact DW.sub _ _ _ _ rfl | exact DW.nilLst _ | refine DW.aggl ?_ | refine DW.tupl ?_ | refine DW.clol ?_ ?_ | exact DW.pubM rfl rfl rfl rfl (linksRow l) rfl | exact DW.pubG rfl rfl rfl rfl rfl (linksRow l) rfl | exact DW.pubM rfl (List.length_map _).symm rfl rfl (linksRow l) rfl | exact DW.pubG rfl (List.length_map _).symm rfl rfl rfl (linksRow l) rfl | exact DW.pubM rfl (distT_len m l f) rfl rfl (intsRow _) (rowC_eq _) | exact DW.pubM rfl (partsT_len m l) rfl rfl (intsRow _) (rowC_eq _) | refine DW.int ?_ | refine DW.bool ?_ | refine DW.str ?_))) | (refine GCall.scalT (fun _ => hS) ?dwq rfl ?_; case dwq => (intro _; repeat' (first | refine DWl.cons ?_ ?_ | exact DWl.nil | exact DW.same _ rfl | exact DW.ref _ _ _ rfl | exact DW.arr _ _ _ rfl | exact DW.sub _ _ _ _ rfl | exact DW.nilLst _ | refine DW.aggl ?_ | refine DW.tupl ?_ | refine DW.clol ?_ ?_ | exact DW.pubM rfl rfl rfl rfl (linksRow l) rfl | exact DW.pubG rfl rfl rfl rfl rfl (linksRow l) rfl | exact DW.pubM rfl (List.length_map _).symm rfl rfl (linksRow l) rfl | exact DW.pubG rfl (List.length_map _).symm rfl rfl rfl (linksRow l) rfl | exact DW.pubM rfl (distT_len m l f) rfl rfl (intsRow _) (rowC_eq _) | exact DW.pubM rfl (partsT_len m l) rfl rfl (intsRow _) (rowC_eq _) | refine DW.int ?_ | refine DW.bool ?_ | refine DW.str ?_))) | refine GCall.data (fun _ => awake13_D) rfl rfl ?_ | refine GCall.scal (fun _ => awake13_D) rfl rfl ?_) | ((with_reducible refine MCall.mark ?_); first | refine MCall.data (fun _ => hF) rfl rfl ?_ | refine MCall.data (fun _ => hG) rfl rfl ?_ | refine MCall.data (fun _ => deg23_D l f) rfl rfl ?_ | refine MCall.plain (PCall.mk (deg23_D l f) rfl rfl ?_) | refine MCall.data (fun _ => dist25_D m l f hm hl) rfl rfl ?_ | refine MCall.plain (PCall.mk (dist25_D m l f hm hl) rfl rfl ?_) | refine MCall.data (fun _ => parts26_D m l hm hl) rfl rfl ?_ | refine MCall.plain (PCall.mk (parts26_D m l hm hl) rfl rfl ?_) | refine MCall.data (fun _ => width27_D m l hm hl) rfl rfl ?_ | refine MCall.plain (PCall.mk (width27_D m l hm hl) rfl rfl ?_) | refine MCall.data (fun _ => awake13_D) rfl rfl ?_ | refine MCall.plain (PCall.mk (awake13_D) rfl rfl ?_)) | refine dcell_ok rfl ?_ | refine AppC.new ?_))
    all_goals first | (with_reducible refine enters_mark ?_; kernel_rfl) | (with_reducible refine boolT_mark ?_; kernel_rfl) | rfl | trivial | assumption | exact Nat.le_of_ble_eq_true rfl | (show entersB _ _ = true; kernel_rfl) | exact DW.same _ rfl | exact DW.ref _ _ _ rfl | exact DW.arr _ _ _ rfl | refine DW.int ?_ | refine dvb ?_ | refine dvi ?_ | exact OW.cells rfl rfl (DWl.same rfl) | exact Nat.zero_le _ | omega | skip
    all_goals repeat' (first | refine OW.cells rfl rfl ?_ | exact DW.nilArr _ rfl | refine DWl.cons ?_ ?_ | exact DWl.nil | exact DW.same _ rfl | exact DW.ref _ _ _ rfl | exact DW.arr _ _ _ rfl | exact DW.sub _ _ _ _ rfl | exact DW.nilLst _ | refine DW.aggl ?_ | refine DW.tupl ?_ | refine DW.clol ?_ ?_ | exact DW.pubM rfl rfl rfl rfl (linksRow l) rfl | exact DW.pubG rfl rfl rfl rfl rfl (linksRow l) rfl | exact DW.pubM rfl (List.length_map _).symm rfl rfl (linksRow l) rfl | exact DW.pubG rfl (List.length_map _).symm rfl rfl rfl (linksRow l) rfl | exact DW.pubM rfl (distT_len m l f) rfl rfl (intsRow _) (rowC_eq _) | exact DW.pubM rfl (partsT_len m l) rfl rfl (intsRow _) (rowC_eq _))
    all_goals try ((conv => whnf); with_reducible first | refine Round.mark ?_ | refine Tells.mark ?_ | refine Retold.mark ?_)
    all_goals try first | (show (_ : Bool) = _; simp_all; done) | (show (_ : Int) < _; simp at *; omega) | (show (_ : Int) ≤ _; simp at *; omega) | (show (_ : Nat) < _; simp at *; omega) | (show (_ : Nat) ≤ _; simp at *; omega)
    · rw [List.length_map]
      show l.length * 16 ≤ _
      omega
    · rw [List.length_map]; simp only [maxLen]; omega
end Go.Proofs.Ytphgcgggbbcjgaa

/- Distances both ways, of neighbours, and who is reached. -/
namespace Go.Proofs.Ytphgcgggbbcjgaa
open Go.RowKit Go.Dl

theorem relax_neg {r : Nat} {D : List Int} {a b : Nat} (h : ∀ x ∈ D, x = -1 ∨ 0 ≤ x) : ∀ x ∈ relax r D a b, x = -1 ∨ 0 ≤ x := by
  unfold relax
  split
  · intro x hx
    rcases List.mem_or_eq_of_mem_set hx with h1 | h1
    · exact h x h1
    · right; omega
  · exact h
theorem fold_neg {r : Nat} (l : List Lk) : ∀ D : List Int, (∀ x ∈ D, x = -1 ∨ 0 ≤ x) → ∀ x ∈ l.foldl (stepD r) D, x = -1 ∨ 0 ≤ x := by
  induction l with
  | nil => intro D h; exact h
  | cons y l ih => intro D h; exact ih _ (relax_neg (relax_neg h))
theorem rounds_neg (n : Nat) (l : List Lk) (f : Int) (k : Nat) : ∀ x ∈ roundsD n l f k, x = -1 ∨ 0 ≤ x := by
  induction k with
  | zero =>
    intro x hx
    rcases List.mem_or_eq_of_mem_set hx with h1 | h1
    · exact .inl (List.mem_replicate.1 h1).2
    · right; omega
  | succ k ih => rw [rounds_succ]; exact fold_neg l _ ih
theorem d_rng {n : Nat} {l : List Lk} {a v : Nat} (ha : a < n) (hv : v < n) : ((distT n l a).getD v 0 = -1 ∨ 0 ≤ (distT n l a).getD v 0) ∧ (distT n l a).getD v 0 ≤ n := by
  have hlen := distT_len n l a
  have key : ∀ x ∈ distT n l a, (x = -1 ∨ 0 ≤ x) ∧ x ≤ n := by
    rw [distT_in (show 0 ≤ (a : Int) ∧ (a : Int) < n by omega)]
    exact fun x hx => ⟨rounds_neg n l a n _ hx, rounds_le n l a n _ hx⟩
  rw [List.getD_eq_getElem?_getD, List.getElem?_eq_getElem (by omega), Option.getD_some]
  exact key _ (List.getElem_mem (l := distT n l a) (n := v) (by omega))
theorem d_sym {n : Nat} {l : List Lk} (hl : inN n l) {a b : Nat} (ha : a < n) (hb : b < n) : (distT n l a).getD b 0 = (distT n l b).getD a 0 := by
  by_cases h : 0 ≤ (distT n l a).getD b 0
  · exact (dist_symm hl ha hb h).symm
  · have h2 : ¬ 0 ≤ (distT n l b).getD a 0 := fun hh => h ((dist_symm_iff hl ha hb).2 hh)
    have r1 := (d_rng (l := l) ha hb).1
    have r2 := (d_rng (l := l) hb ha).1
    omega
theorem d_zero {n : Nat} {l : List Lk} (hl : inN n l) {a b : Nat} (ha : a < n) (hb : b < n) (hne : a ≠ b) : (distT n l a).getD b 0 ≠ 0 := fun h => by
  have h1 := dist_least (f := (a : Int)) (by omega) hl hb (by omega)
  rw [h] at h1
  exact hne h1.1
theorem d_walk {n : Nat} {l : List Lk} (hl : inN n l) {a b : Nat} (ha : a < n) (hb : b < n) : 0 ≤ (distT n l a).getD b 0 ↔ ∃ m, WalkL l m a b := by
  constructor
  · intro h
    exact ⟨_, (dist_least (f := (a : Int)) (by omega) hl hb h).1⟩
  · rintro ⟨m, h⟩
    exact dist_walk (f := (a : Int)) (by omega) hl hb (m := m) h
theorem d_edge {n : Nat} {l : List Lk} (hl : inN n l) {a : Nat} (ha : a < n) {u v : Nat} (hu : u < n) (hv : v < n) (he : EdgeL l u v) (h : 0 ≤ (distT n l a).getD u 0) : 0 ≤ (distT n l a).getD v 0 ∧ (distT n l a).getD v 0 ≤ (distT n l a).getD u 0 + 1 := by
  have h1 := dist_least (f := (a : Int)) (by omega) hl hu h
  have hw : WalkL l (((distT n l a).getD u 0).toNat + 1) (a : Int).toNat v := ⟨u, h1.1, he⟩
  have h2 := dist_walk (f := (a : Int)) (by omega) hl hv hw
  have h3 := dist_least (f := (a : Int)) (by omega) hl hv h2
  refine ⟨h2, ?_⟩
  rcases Nat.lt_or_ge (((distT n l a).getD u 0).toNat + 1) ((distT n l a).getD v 0).toNat with h4 | h4
  · exact absurd hw (h3.2 _ h4)
  · omega
theorem ls_least {p : Nat → Bool} {n x : Nat} (hx : x < n) (hp : p x = true) : ∃ v, v < n ∧ lsP p n x n = (v : Nat) ∧ p v = true ∧ ∀ w, w < v → p w = false := by
  have key : ∀ k, k ≤ n → (lsP p n x k = x ∧ ∀ w, n - k ≤ w → w < n → p w = false) ∨ (∃ v, n - k ≤ v ∧ v < n ∧ lsP p n x k = (v : Nat) ∧ p v = true ∧ ∀ w, n - k ≤ w → w < v → p w = false) := fun k => by
    induction k with
    | zero => intro _; exact .inl ⟨rfl, fun w h1 h2 => by omega⟩
    | succ k ih =>
      intro hk
      rw [lsP]
      by_cases h : p (n - 1 - k) = true
      · rw [if_pos h]
        exact .inr ⟨n - 1 - k, by omega, by omega, rfl, h, fun w h1 h2 => by omega⟩
      · rw [if_neg h]
        have hf : p (n - 1 - k) = false := by simpa using h
        rcases ih (by omega) with ⟨i1, i2⟩ | ⟨v, i1, i2, i3, i4, i5⟩
        · refine .inl ⟨i1, fun w h1 h2 => ?_⟩
          by_cases e : w = n - 1 - k
          · rw [e]; exact hf
          · exact i2 w (by omega) h2
        · refine .inr ⟨v, by omega, i2, i3, i4, fun w h1 h2 => ?_⟩
          by_cases e : w = n - 1 - k
          · rw [e]; exact hf
          · exact i5 w (by omega) h2
  rcases key n (Nat.le_refl _) with ⟨_, h⟩ | ⟨v, _, h2, h3, h4, h5⟩
  · have := h x (by omega) hx; rw [hp] at this; cases this
  · exact ⟨v, h2, h3, h4, fun w hw => h5 w (by omega) hw⟩
theorem parts_get {n : Nat} {l : List Lk} {x : Nat} (hx : x < n) : (partsT n l).getD x 0 = lsP (fun i => joinB n l x i) n x n := by
  unfold partsT lfL
  rw [List.getD_eq_getElem?_getD, List.getElem?_map, List.getElem?_range hx]; rfl
theorem join_walk {n : Nat} {l : List Lk} (hl : inN n l) {a b : Nat} (ha : a < n) (hb : b < n) : joinB n l a b = true ↔ ∃ m, WalkL l m a b := by
  unfold joinB
  rw [decide_eq_true_eq, d_walk hl ha hb]
theorem p_iff {n : Nat} {l : List Lk} (hl : inN n l) {a b : Nat} (ha : a < n) (hb : b < n) : 0 ≤ (distT n l a).getD b 0 ↔ (partsT n l).getD a 0 = (partsT n l).getD b 0 := by
  rw [parts_get ha, parts_get hb]
  obtain ⟨v, v1, v2, v3, v4⟩ := ls_least (p := fun i => joinB n l a i) (x := a) ha ((join_walk hl ha ha).2 ⟨0, rfl⟩)
  obtain ⟨w, w1, w2, w3, w4⟩ := ls_least (p := fun i => joinB n l b i) (x := b) hb ((join_walk hl hb hb).2 ⟨0, rfl⟩)
  rw [v2, w2, d_walk hl ha hb]
  have v3 := (join_walk hl ha v1).1 v3
  have w3 := (join_walk hl hb w1).1 w3
  constructor
  · rintro ⟨m, hm⟩
    rcases Nat.lt_trichotomy v w with h | h | h
    · obtain ⟨j, hj⟩ := v3
      have := w4 v h
      rw [(join_walk hl hb v1).2 ⟨_, hm.symm.append hj⟩] at this; cases this
    · rw [h]
    · obtain ⟨j, hj⟩ := w3
      have := v4 w h
      rw [(join_walk hl ha w1).2 ⟨_, hm.append hj⟩] at this; cases this
  · intro h
    have h : v = w := by omega
    subst h
    obtain ⟨i, hi⟩ := v3
    obtain ⟨j, hj⟩ := w3
    exact ⟨_, hi.append hj.symm⟩
end Go.Proofs.Ytphgcgggbbcjgaa
