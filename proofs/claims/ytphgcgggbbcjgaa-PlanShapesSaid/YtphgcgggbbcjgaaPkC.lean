/- Pairs as rows; what each shape gives. -/
import Derived.Test.YtphgcgggbbcjgaaPkB

namespace Go.Proofs.Ytphgcgggbbcjgaa
open Go.RowKit Go.Dl Go.Shelf Go.Sort
attribute [local irreducible] Tri SCall DFun QSem PCall GCall MCall Round Weak dloadE OW DWl Tells Retold ESem

def rowL (l : List Lk) : List DV := (l.map linkD).flatten
theorem rowL_eq (l : List Lk) : rowL l = (l.map linkD).flatten := rfl
theorem rowL_cons (x : Lk) (l : List Lk) : rowL (x :: l) = linkD x ++ rowL l := rfl
theorem rowL_append (l m : List Lk) : rowL (l ++ m) = rowL l ++ rowL m := by simp [rowL]
theorem rowL_len (l : List Lk) : (rowL l).length = l.length * 2 := by
  induction l with
  | nil => rfl
  | cons a l ih => rw [rowL_cons, List.length_append, ih]; simp [linkD]; omega
theorem rowL_all (l : List Lk) : (rowL l).all noId1 = true := by
  induction l with
  | nil => rfl
  | cons a l ih => rw [rowL_cons, List.all_append, ih]; rfl
theorem rowL_one (l : List Lk) : (rowL l).all DV.one = true := by
  induction l with
  | nil => rfl
  | cons a l ih => rw [rowL_cons, List.all_append, ih]; rfl
theorem rowL_push {l : List Lk} {n : Nat} (h : l.length = n) (a b : Int) : (rowL l).take (n * 2) ++ [.v (.int .i64 a), .v (.int .i64 b)] = rowL (l ++ [(a, b)]) := by
  rw [List.take_of_length_le (by rw [rowL_len]; omega), rowL_append]; rfl

/-- So many of a shape's pairs. -/
def preL (f : Nat → Lk) (j : Nat) : List Lk := (List.range j).map f
theorem pre_len (f : Nat → Lk) (j : Nat) : (preL f j).length = j := by simp [preL]
theorem pre_succ (f : Nat → Lk) (j : Nat) : preL f (j + 1) = preL f j ++ [f j] := by simp [preL, List.range_succ]
theorem pre_zero (f : Nat → Lk) : preL f 0 = [] := rfl
theorem rowL_zero (f : Nat → Lk) : rowL (preL f 0) = [] := rfl
theorem bt1 {b : Bool} {Q : Prop} (h : (bif b then true else false) = false) (h1 : (b == true) = true) : Q := by cases b <;> simp at h h1
theorem bt2 {b : Bool} {Q : Prop} (h : b = true) (h1 : (b == true) = false) : Q := by cases b <;> simp at h h1
def lineF (j : Nat) : Lk := ((j : Int), (j : Int) + 1)
def starF (j : Nat) : Lk := (0, (j : Int) + 1)
def treeF (k : Int) (j : Nat) : Lk := ((j : Int) / k, (j : Int) + 1)

def toF (x : Lk) : F2 := (⟨x.1.toNat % 64, Nat.mod_lt _ (by decide)⟩, ⟨x.2.toNat % 64, Nat.mod_lt _ (by decide)⟩)
def in64 (l : List Lk) : Prop := ∀ x ∈ l, (0 ≤ x.1 ∧ x.1 < 64) ∧ (0 ≤ x.2 ∧ x.2 < 64)
theorem toF_lk {x : Lk} (h : (0 ≤ x.1 ∧ x.1 < 64) ∧ (0 ≤ x.2 ∧ x.2 < 64)) : lkF (toF x) = x := by
  obtain ⟨a, b⟩ := x
  simp only [lkF, toF] at *
  refine Prod.ext ?_ ?_ <;> simp only <;> omega
theorem toF_map {l : List Lk} (h : in64 l) : (l.map toF).map lkF = l := by
  rw [List.map_map]
  conv => rhs; rw [← List.map_id l]
  exact List.map_congr_left fun x hx => toF_lk (h x hx)
def sortL (l : List Lk) : List Lk := (sortF (l.map toF)).map lkF
theorem sortL_len (l : List Lk) : (sortL l).length = l.length := by simp [sortL, sortF_len]

theorem sortL_nil : sortL [] = [] := by simp [sortL, sortF]
theorem _root_.Go.Dl.SCall.still {P : Program} {f g : FuncId} {s : Sto} {id : Nat} {K : DV → Sto → Prop}
    (hcon : ∀ (p : Option Addr) (cap : Nat) (fv : Value) (w : World), Calls P f #[.slice p 0 cap, fv] w fun e w' => e = .returned (.tuple #[]) ∧ w' = w)
    (hK : K (.tup []) s) : SCall P f [.arr id 0, .clo (.func g) [] []] s K := by
  unfold SCall
  intro w0 F0 β w vals hs hx
  obtain ⟨hl2, hx⟩ := hx
  match vals, hl2 with
  | [x, y], _ =>
  have hx0 := hx 0 _ _ rfl rfl
  have key : ∀ p cap, x = .slice p 0 cap → Calls P f [x, y].toArray w fun e w' => ∃ v r s' β', e = .returned v ∧ K r s' ∧ SRel w0 F0 s' β' w' ∧ Ext s.nx w0 nX s β w s' β' w' ∧ s.nx ≤ s'.nx ∧ RV w' (Fr w0 F0 s' β') β' r v := fun p cap e => by
    subst e
    exact (hcon p cap y w).mono fun e w' ⟨he, hw⟩ => by
      subst hw
      exact ⟨_, _, _, β, he, hK, hs, .refl, Nat.le_refl _, .tup [] [] rfl (fun i d x h => by simp at h)⟩
  rcases rv_arr hx0 with ⟨b, c, hb, hle, rfl⟩ | ⟨hb, hz, rfl⟩
  · exact key _ _ rfl
  · exact key _ _ rfl
theorem sortLinks {s : Sto} {id len : Nat} {l : List Lk} {K : DV → Sto → Prop} (hl : in64 l) (hob : s.ob id = some ⟨44, 2, rowL l⟩) (hn : len = l.length) (hlen : l.length ≤ 1000000)
    (hK : K (.tup []) ⟨upd s.ob id (some ⟨44, 2, rowL (sortL l)⟩), s.nx⟩) : SCall Try.prog 29 [.arr id len, .clo (.func 30) [] []] s K := by
  by_cases h0 : l = []
  · subst h0 hn
    refine SCall.still (fun p cap fv w => AnyF.slices_SortFunc_none Try.sortLinks p cap fv w) ?_
    have e : (⟨upd s.ob id (some ⟨44, 2, rowL (sortL [])⟩), s.nx⟩ : Sto) = s := by
      have : upd s.ob id (some ⟨44, 2, rowL (sortL [])⟩) = s.ob := by
        funext i
        by_cases h : i = id
        · subst h; rw [upd_same, hob, sortL_nil]
        · rw [upd_ne _ _ _ h]
      rw [this]
    rw [e] at hK
    exact hK
  · refine sort29 (l := l.map toF) ?_ ?_ ?_ ?_ hK
    · rw [toF_map hl]; exact hob
    · rw [List.length_map]; exact hn
    · simpa using h0
    · rw [List.length_map]; exact hlen
end Go.Proofs.Ytphgcgggbbcjgaa

/- Links of a star, of a line, of a tree. -/
namespace Go.Proofs.Ytphgcgggbbcjgaa
open Go.RowKit Go.Dl
attribute [local irreducible] Tri SCall DFun QSem PCall GCall MCall Round Weak dloadE OW DWl Tells Retold ESem

def degOk (n : Nat) (l : List Lk) : Bool := (List.range n).all fun (v : Nat) => decide (degT l v ≤ 6)
theorem degOk_iff {n : Nat} {l : List Lk} : degOk n l = true ↔ ∀ v : Nat, v < n → degT l v ≤ 6 := by simp [degOk]
def linksR (n : Nat) (l : List Lk) : List Lk × Int := if degOk n l = true then (sortL l, 0) else ([], 43)
theorem linksR_ok {n : Nat} {l : List Lk} (h : ∀ v : Nat, v < n → degT l v ≤ 6) : linksR n l = (sortL l, 0) := by rw [linksR, if_pos (degOk_iff.2 h)]
theorem linksR_no {n : Nat} {l : List Lk} {v : Nat} (hv : v < n) (h : 6 < degT l v) : linksR n l = ([], 43) := by
  rw [linksR, if_neg (fun e => by have := degOk_iff.1 e v hv; omega)]
def stDeg (n : Nat) (l : List Lk) (v : Nat) : St := ⟨0, tmOf [(1, int1 n), (10, .ref 0 0), (54, int1 n), (55, int1 v)], .of [(0, ⟨23, 1, [.arr 1 l.length]⟩), (1, ⟨44, 2, rowL l⟩)] 2⟩
def preDeg (n : Nat) (l : List Lk) (v : Nat) : Prop := v ≤ n ∧ ∀ u : Nat, u < v → degT l u ≤ 6
theorem rowL_step {f : Nat → Lk} {j : Nat} {a b : Int} (h : (a, b) = f j) : (rowL (preL f j)).take (j * 2) ++ [.v (.int .i64 a), .v (.int .i64 b)] = rowL (preL f (j + 1)) := by
  rw [rowL_push (pre_len _ _), h, ← pre_succ]
theorem wprev {j : Nat} (h : j < 1000) : IntKind.i64.wrap ((j : Int) + 1 - 1) = j := by rw [wrapI (by omega) (by omega)]; omega
theorem pre_in64 {f : Nat → Lk} {m : Nat} (h : ∀ j, j < m → (0 ≤ (f j).1 ∧ (f j).1 < 64) ∧ (0 ≤ (f j).2 ∧ (f j).2 < 64)) : in64 (preL f m) := fun x hx => by
  obtain ⟨j, hj, rfl⟩ := List.mem_map.1 hx
  exact h j (List.mem_range.1 hj)
def ststar (n : Nat) (k : Int) (lb j : Nat) : St := ⟨⟨2, [.normal]⟩, tmOf [(0, .clo (.yield lb) [] []), (1, .ref 1 0), (3, int1 ((j : Int) + 1))], .of [(0, ⟨23, 1, [.arr 2 j]⟩), (1, ⟨3, 1, [int1 n]⟩), (2, ⟨44, 2, rowL (preL (starF) j)⟩)] 3⟩
def stline (n : Nat) (k : Int) (lb j : Nat) : St := ⟨⟨2, [.normal]⟩, tmOf [(0, .clo (.yield lb) [] []), (1, .ref 1 0), (3, int1 ((j : Int) + 1))], .of [(0, ⟨23, 1, [.arr 2 j]⟩), (1, ⟨3, 1, [int1 n]⟩), (2, ⟨44, 2, rowL (preL (lineF) j)⟩)] 3⟩
def sttree (n : Nat) (k : Int) (lb j : Nat) : St := ⟨⟨3, [.normal]⟩, tmOf [(0, .clo (.yield lb) [] []), (1, .ref 1 0), (2, .ref 2 0), (4, int1 ((j : Int) + 1))], .of [(0, ⟨23, 1, [.arr 3 j]⟩), (1, ⟨3, 1, [int1 n]⟩), (2, ⟨3, 1, [int1 k]⟩), (3, ⟨44, 2, rowL (preL (treeF k) j)⟩)] 4⟩
theorem tree_quo {k : Int} (hk : 1 ≤ k) {j : Nat} (hj : j < 60) : IntKind.i64.wrap ((IntKind.i64.wrap ((j : Int) + 1 - 1)).tdiv k) = (j : Int) / k := by
  have h1 : (j : Int) / k ≤ j := Int.ediv_le_self _ (by omega)
  have h2 : 0 ≤ (j : Int) / k := Int.ediv_nonneg (by omega) (by omega)
  rw [wprev (by omega), Int.tdiv_eq_ediv_of_nonneg (by omega), wrapI (by omega) (by omega)]
theorem tree_in64 {k : Int} (hk : 1 ≤ k) {j : Nat} (hj : j < 60) : (0 ≤ (treeF k j).1 ∧ (treeF k j).1 < 64) ∧ (0 ≤ (treeF k j).2 ∧ (treeF k j).2 < 64) := by
  have h1 : (j : Int) / k ≤ j := Int.ediv_le_self _ (by omega)
  have h2 : 0 ≤ (j : Int) / k := Int.ediv_nonneg (by omega) (by omega)
  simp only [treeF]; omega
attribute [local irreducible] rowL preL degT sortL
set_option maxRecDepth 100000 in
set_option maxHeartbeats 1000000 in
theorem star_D (n : Nat) (hn : 1 ≤ n ∧ n ≤ 16) (k : Int) : DPure Try.prog 8 [int1 3, int1 n, int1 k] (.tup [links (linksR n (preL (starF) (n - 1))).1, int1 (linksR n (preL (starF) (n - 1))).2]) := by
  generalize hL : preL (starF) (n - 1) = L
  have hlen : L.length = n - 1 := by rw [← hL]; exact pre_len _ _
  have h64 : in64 L := by rw [← hL]; exact pre_in64 fun j hj => by simp only [starF]; omega
  refine DFun.data (DFun.body Try.func8 rfl (by kernel_rfl) ?_)
  repeat' (first | with_reducible rfl | ((conv => whnf); first | refine And.intro ?_ ?_ | (intro h; first | exact Bool.noConfusion h | with_reducible exact h | (refine not_t h ?_; rfl) | (refine not_f h ?_; rfl) | (exfalso; simp at h; omega) | (have ht : true = true := h; clear ht h) | skip) | ((with_reducible refine DWl.mark ?_); repeat' (first | refine DWl.cons ?_ ?_ | exact DWl.nil | exact DW.same _ rfl | exact DW.ref _ _ _ rfl | exact DW.arr _ _ _ rfl | exact DW.sub _ _ _ _ rfl | exact DW.nilLst _ | refine DW.aggl ?_ | refine DW.tupl ?_ | refine DW.clol ?_ ?_ | refine DW.int ?_ | refine DW.bool ?_ | refine DW.str ?_)) | ((with_reducible refine SCall.mark ?_); first | refine SCall.data (shapes_D) rfl rfl ?_ | refine SCall.run Try.func38 rfl (Nat.le_of_ble_eq_true rfl) (by kernel_rfl) ?_) | ((with_reducible refine GCall.mark ?_); first | refine GCall.data (fun _ => shapes_D) rfl rfl ?_) | ((with_reducible refine MCall.mark ?_); first | refine MCall.data (fun _ => shapes_D) rfl rfl ?_) | ((with_reducible refine ex_mark ?_); first | refine dq_look 38 2 rfl rfl rfl ?_) | refine dcell_ok rfl ?_ | refine AppC.new ?_))
  all_goals first | (with_reducible refine enters_mark ?_; kernel_rfl) | (with_reducible refine boolT_mark ?_; kernel_rfl) | rfl | trivial | assumption | exact Nat.le_of_ble_eq_true rfl | (show entersB _ _ = true; kernel_rfl) | exact DW.same _ rfl | exact DW.ref _ _ _ rfl | exact DW.arr _ _ _ rfl | refine DW.int ?_ | refine dvb ?_ | refine dvi ?_ | exact OW.cells rfl rfl (DWl.same rfl) | exact Nat.zero_le _ | omega | skip
  all_goals repeat' (first | refine OW.cells rfl rfl ?_ | exact DW.nilArr _ rfl | refine DWl.cons ?_ ?_ | exact DWl.nil | exact DW.same _ rfl | exact DW.ref _ _ _ rfl | exact DW.arr _ _ _ rfl | exact DW.sub _ _ _ _ rfl | exact DW.nilLst _ | refine DW.aggl ?_ | refine DW.tupl ?_ | refine DW.clol ?_ ?_)
  all_goals try ((conv => whnf); with_reducible first | refine Round.mark ?_ | refine Tells.mark ?_ | refine Retold.mark ?_)
  all_goals try first | (show (_ : Bool) = _; simp_all; done) | (show (_ : Int) < _; simp at *; omega) | (show (_ : Int) ≤ _; simp at *; omega) | (show (_ : Nat) < _; simp at *; omega) | (show (_ : Nat) ≤ _; simp at *; omega)
  conv => whnf
  refine Tri.range rfl (by kernel_rfl) rfl rfl (by rfl) (by kernel_rfl) fun lb => ?_
  repeat' (first | with_reducible rfl | ((conv => whnf); first | refine And.intro ?_ ?_ | (intro h; first | exact Bool.noConfusion h | with_reducible exact h | (refine not_t h ?_; rfl) | (refine not_f h ?_; rfl) | (refine bt1 h ?_; with_reducible assumption) | (refine bt2 h ?_; with_reducible assumption) | (have ht : true = true := h; clear ht h) | skip) | ((with_reducible refine DWl.mark ?_); repeat' (first | refine DWl.cons ?_ ?_ | exact DWl.nil | exact DW.same _ rfl | exact DW.ref _ _ _ rfl | exact DW.arr _ _ _ rfl | exact DW.sub _ _ _ _ rfl | exact DW.nilLst _ | refine DW.aggl ?_ | refine DW.tupl ?_ | refine DW.clol ?_ ?_ | refine DW.int ?_ | refine DW.bool ?_ | refine DW.str ?_)) | ((with_reducible refine Tri.mark ?_); first | refine Tri.loop (ststar n k lb) (fun j => j + 1 ≤ n) (fun j => n - j) 0 (by kernel_rfl) (Weak.list [(2, none)] [] (by kernel_rfl) ?_ ?_) ?_ ?_) | refine dcell_ok rfl ?_ | refine AppC.new ?_))
  all_goals first | (with_reducible refine enters_mark ?_; kernel_rfl) | (with_reducible refine boolT_mark ?_; kernel_rfl) | rfl | trivial | assumption | exact Nat.le_of_ble_eq_true rfl | (show entersB _ _ = true; kernel_rfl) | exact DW.same _ rfl | exact DW.ref _ _ _ rfl | exact DW.arr _ _ _ rfl | refine DW.int ?_ | refine dvb ?_ | refine dvi ?_ | exact OW.cells rfl rfl (DWl.same rfl) | exact Nat.zero_le _ | omega | skip
  all_goals repeat' (first | refine OW.cells rfl rfl ?_ | exact DW.nilArr _ rfl | refine DWl.cons ?_ ?_ | exact DWl.nil | exact DW.same _ rfl | exact DW.ref _ _ _ rfl | exact DW.arr _ _ _ rfl | exact DW.sub _ _ _ _ rfl | exact DW.nilLst _ | refine DW.aggl ?_ | refine DW.tupl ?_ | refine DW.clol ?_ ?_)
  all_goals try ((conv => whnf); with_reducible first | refine Round.mark ?_ | refine Tells.mark ?_ | refine Retold.mark ?_)
  all_goals try first | (show (_ : Bool) = _; simp_all; done) | (show (_ : Int) < _; simp at *; omega) | (show (_ : Int) ≤ _; simp at *; omega) | (show (_ : Nat) < _; simp at *; omega) | (show (_ : Nat) ≤ _; simp at *; omega)
  · conv => whnf
    exact rowL_zero _
  · rename_i j hj
    show j * 2 ≤ (rowL (preL (starF) j)).length
    rw [rowL_len, pre_len]; omega
  · simp only [maxLen]; omega
  · rename_i j hj e1
    have hjn : j + 1 < n := by simp at h; omega
    refine Round.go (· + 1) (by omega) (by show n - (j + 1) < n - j; omega) (Weak.list [(2, some 4)] [] (by kernel_rfl) ?_ ?_)
    · repeat' (first | exact wsucc (k := j + 1) hjn (by omega) | exact DWl.eq (rowL_step (rfl)) (rowL_all _) | exact DW.same _ rfl | exact DW.ref _ _ _ rfl | exact DW.arr _ _ _ rfl | exact OW.cells rfl rfl (DWl.same rfl) | refine OW.cells rfl rfl ?_ | refine DWl.cons ?_ ?_ | exact DWl.nil | exact DW.nilArr _ rfl | exact DW.nilLst _ | refine DW.clol ?_ ?_ | refine DW.aggl ?_ | refine DW.tupl ?_ | refine DW.int ?_ | refine DW.bool ?_ | refine DW.str ?_ | refine DW.arrE rfl ?_ | ((conv => whnf); first | refine And.intro ?_ ?_ | trivial))
    · repeat' (first | exact wsucc (k := j + 1) hjn (by omega) | exact DWl.eq (rowL_step (rfl)) (rowL_all _) | exact DW.same _ rfl | exact DW.ref _ _ _ rfl | exact DW.arr _ _ _ rfl | exact OW.cells rfl rfl (DWl.same rfl) | refine OW.cells rfl rfl ?_ | refine DWl.cons ?_ ?_ | exact DWl.nil | exact DW.nilArr _ rfl | exact DW.nilLst _ | refine DW.clol ?_ ?_ | refine DW.aggl ?_ | refine DW.tupl ?_ | refine DW.int ?_ | refine DW.bool ?_ | refine DW.str ?_ | refine DW.arrE rfl ?_ | ((conv => whnf); first | refine And.intro ?_ ?_ | trivial))
  · rename_i j hj e1 e2
    have : j = n - 1 := by simp at e2; omega
    subst this
    conv => whnf
    refine Tri.loop (stDeg n L) (preDeg n L) (fun v => n - v) 0 (by kernel_rfl) (Weak.list [(0, some 0), (1, some 2)] [] (by kernel_rfl) ?_ ?_) ⟨Nat.zero_le _, fun u hu => absurd hu (Nat.not_lt_zero _)⟩ ?_
    · repeat' (first | exact DWl.eq (congrArg rowL hL) (rowL_all _) | exact hlen.symm | exact DW.same _ rfl | exact DW.ref _ _ _ rfl | exact DW.arr _ _ _ rfl | exact OW.cells rfl rfl (DWl.same rfl) | refine OW.cells rfl rfl ?_ | refine DWl.cons ?_ ?_ | exact DWl.nil | exact DW.nilArr _ rfl | exact DW.nilLst _ | refine DW.clol ?_ ?_ | refine DW.aggl ?_ | refine DW.tupl ?_ | refine DW.int ?_ | refine DW.bool ?_ | refine DW.str ?_ | refine DW.arrE rfl ?_ | ((conv => whnf); first | refine And.intro ?_ ?_ | trivial))
    · repeat' (first | exact DWl.eq (congrArg rowL hL) (rowL_all _) | exact hlen.symm | exact DW.same _ rfl | exact DW.ref _ _ _ rfl | exact DW.arr _ _ _ rfl | exact OW.cells rfl rfl (DWl.same rfl) | refine OW.cells rfl rfl ?_ | refine DWl.cons ?_ ?_ | exact DWl.nil | exact DW.nilArr _ rfl | exact DW.nilLst _ | refine DW.clol ?_ ?_ | refine DW.aggl ?_ | refine DW.tupl ?_ | refine DW.int ?_ | refine DW.bool ?_ | refine DW.str ?_ | refine DW.arrE rfl ?_ | ((conv => whnf); first | refine And.intro ?_ ?_ | trivial))
    intro v hv
    repeat' (first | with_reducible rfl | ((conv => whnf); first | refine And.intro ?_ ?_ | (intro h; first | exact Bool.noConfusion h | with_reducible exact h | (refine bt1 h ?_; with_reducible assumption) | (refine bt2 h ?_; with_reducible assumption) | (have ht : true = true := h; clear ht h) | skip) | ((with_reducible refine DWl.mark ?_); repeat' (first | refine DWl.cons ?_ ?_ | exact DWl.nil | exact DW.same _ rfl | exact DW.ref _ _ _ rfl | exact DW.arr _ _ _ rfl | exact DW.sub _ _ _ _ rfl | exact DW.nilLst _ | refine DW.aggl ?_ | refine DW.tupl ?_ | refine DW.clol ?_ ?_ | exact DW.pubM rfl rfl rfl rfl (linksRow L) (rowL_eq L) | refine DW.int ?_ | refine DW.bool ?_ | refine DW.str ?_)) | ((with_reducible refine SCall.mark ?_); first | (refine SCall.scalT (deg22_D L v) ?dwq rfl ?_; case dwq => (repeat' (first | refine DWl.cons ?_ ?_ | exact DWl.nil | exact DW.same _ rfl | exact DW.ref _ _ _ rfl | exact DW.arr _ _ _ rfl | exact DW.sub _ _ _ _ rfl | exact DW.nilLst _ | refine DW.aggl ?_ | refine DW.tupl ?_ | refine DW.clol ?_ ?_ | exact DW.pubM rfl rfl rfl rfl (linksRow L) (rowL_eq L) | refine DW.int ?_ | refine DW.bool ?_ | refine DW.str ?_))) | refine sortLinks (l := L) h64 rfl rfl (by omega) ?_) | ((with_reducible refine GCall.mark ?_); first | (refine GCall.scalT (fun _ => deg22_D L v) ?dwq rfl ?_; case dwq => (intro _; repeat' (first | refine DWl.cons ?_ ?_ | exact DWl.nil | exact DW.same _ rfl | exact DW.ref _ _ _ rfl | exact DW.arr _ _ _ rfl | exact DW.sub _ _ _ _ rfl | exact DW.nilLst _ | refine DW.aggl ?_ | refine DW.tupl ?_ | refine DW.clol ?_ ?_ | exact DW.pubM rfl rfl rfl rfl (linksRow L) (rowL_eq L) | refine DW.int ?_ | refine DW.bool ?_ | refine DW.str ?_)))) | refine dcell_ok rfl ?_ | refine AppC.new ?_))
    all_goals try ((conv => whnf); with_reducible refine Round.mark ?_)
    all_goals try first | ((with_reducible show Option.isSome (slElem _ _) = true); kernel_rfl) | ((with_reducible show slElem _ _ = some _); kernel_rfl) | ((with_reducible refine enters_mark ?_); kernel_rfl) | (with_reducible assumption) | ((with_reducible show List.all _ DV.one = true); rfl) | ((with_reducible show (_ : Nat) = _); rfl) | ((with_reducible show (_ == true) = true); simpa using h) | ((with_reducible show (_ : Nat) ≤ _); exact Nat.le_of_ble_eq_true rfl) | ((with_reducible show (_ : Int) ≤ _); first | omega | decide) | ((with_reducible show (_ : Int) < _); first | omega | decide) | ((with_reducible show (_ : Nat) < _); omega) | ((with_reducible show (_ : Nat) ≤ _); omega)
    · rename_i e3
      conv => whnf
      exact Tells.of (r1 := .tup [links [], int1 43]) (by rw [linksR_no (lt_int e3) (by have := of_decide_eq_true h; omega)]) (Tells.mk (DW.tupl (DWl.cons (DW.nilLst _) (DWl.cons (DW.same _ rfl) DWl.nil))))
    · rename_i e3
      have hvn := lt_int e3
      refine Round.go (· + 1) ⟨hvn, fun u hu => ?_⟩ (by show n - (v + 1) < n - v; omega) (Weak.list [(0, some 0), (1, some 1)] [] (by kernel_rfl) ?_ ?_)
      · rcases Nat.lt_succ_iff_lt_or_eq.1 hu with h5 | h5
        · exact hv.2 u h5
        · subst h5; have := of_decide_eq_false h; omega
      · repeat' (first | exact wsucc hvn (by omega) | exact DWl.eq rfl (rowL_all _) | exact DW.same _ rfl | exact DW.ref _ _ _ rfl | exact DW.arr _ _ _ rfl | exact OW.cells rfl rfl (DWl.same rfl) | refine OW.cells rfl rfl ?_ | refine DWl.cons ?_ ?_ | exact DWl.nil | exact DW.nilArr _ rfl | exact DW.nilLst _ | refine DW.clol ?_ ?_ | refine DW.aggl ?_ | refine DW.tupl ?_ | refine DW.int ?_ | refine DW.bool ?_ | refine DW.str ?_ | refine DW.arrE rfl ?_ | ((conv => whnf); first | refine And.intro ?_ ?_ | trivial))
      · repeat' (first | exact wsucc hvn (by omega) | exact DWl.eq rfl (rowL_all _) | exact DW.same _ rfl | exact DW.ref _ _ _ rfl | exact DW.arr _ _ _ rfl | exact OW.cells rfl rfl (DWl.same rfl) | refine OW.cells rfl rfl ?_ | refine DWl.cons ?_ ?_ | exact DWl.nil | exact DW.nilArr _ rfl | exact DW.nilLst _ | refine DW.clol ?_ ?_ | refine DW.aggl ?_ | refine DW.tupl ?_ | refine DW.int ?_ | refine DW.bool ?_ | refine DW.str ?_ | refine DW.arrE rfl ?_ | ((conv => whnf); first | refine And.intro ?_ ?_ | trivial))
    · have hvn : v = n := by have := ge_int h; have := hv.1; omega
      conv => whnf
      exact Tells.of (r1 := .tup [links (sortL L), int1 0]) (by rw [linksR_ok (by rw [← hvn]; exact hv.2)]) (Tells.mk (DW.tupl (DWl.cons (DW.pubM rfl (sortL_len L) rfl rfl (linksRow _) (rowL_eq _)) (DWl.cons (DW.same _ rfl) DWl.nil))))
set_option maxRecDepth 100000 in
set_option maxHeartbeats 1000000 in
theorem line_D (n : Nat) (hn : 1 ≤ n ∧ n ≤ 16) (k : Int) : DPure Try.prog 8 [int1 1, int1 n, int1 k] (.tup [links (linksR n (preL (lineF) (n - 1))).1, int1 (linksR n (preL (lineF) (n - 1))).2]) := by
  generalize hL : preL (lineF) (n - 1) = L
  have hlen : L.length = n - 1 := by rw [← hL]; exact pre_len _ _
  have h64 : in64 L := by rw [← hL]; exact pre_in64 fun j hj => by simp only [lineF]; omega
  refine DFun.data (DFun.body Try.func8 rfl (by kernel_rfl) ?_)
  repeat' (first | with_reducible rfl | ((conv => whnf); first | refine And.intro ?_ ?_ | (intro h; first | exact Bool.noConfusion h | with_reducible exact h | (refine not_t h ?_; rfl) | (refine not_f h ?_; rfl) | (exfalso; simp at h; omega) | (have ht : true = true := h; clear ht h) | skip) | ((with_reducible refine DWl.mark ?_); repeat' (first | refine DWl.cons ?_ ?_ | exact DWl.nil | exact DW.same _ rfl | exact DW.ref _ _ _ rfl | exact DW.arr _ _ _ rfl | exact DW.sub _ _ _ _ rfl | exact DW.nilLst _ | refine DW.aggl ?_ | refine DW.tupl ?_ | refine DW.clol ?_ ?_ | refine DW.int ?_ | refine DW.bool ?_ | refine DW.str ?_)) | ((with_reducible refine SCall.mark ?_); first | refine SCall.data (shapes_D) rfl rfl ?_ | refine SCall.run Try.func36 rfl (Nat.le_of_ble_eq_true rfl) (by kernel_rfl) ?_) | ((with_reducible refine GCall.mark ?_); first | refine GCall.data (fun _ => shapes_D) rfl rfl ?_) | ((with_reducible refine MCall.mark ?_); first | refine MCall.data (fun _ => shapes_D) rfl rfl ?_) | ((with_reducible refine ex_mark ?_); first | refine dq_look 36 0 rfl rfl rfl ?_) | refine dcell_ok rfl ?_ | refine AppC.new ?_))
  all_goals first | (with_reducible refine enters_mark ?_; kernel_rfl) | (with_reducible refine boolT_mark ?_; kernel_rfl) | rfl | trivial | assumption | exact Nat.le_of_ble_eq_true rfl | (show entersB _ _ = true; kernel_rfl) | exact DW.same _ rfl | exact DW.ref _ _ _ rfl | exact DW.arr _ _ _ rfl | refine DW.int ?_ | refine dvb ?_ | refine dvi ?_ | exact OW.cells rfl rfl (DWl.same rfl) | exact Nat.zero_le _ | omega | skip
  all_goals repeat' (first | refine OW.cells rfl rfl ?_ | exact DW.nilArr _ rfl | refine DWl.cons ?_ ?_ | exact DWl.nil | exact DW.same _ rfl | exact DW.ref _ _ _ rfl | exact DW.arr _ _ _ rfl | exact DW.sub _ _ _ _ rfl | exact DW.nilLst _ | refine DW.aggl ?_ | refine DW.tupl ?_ | refine DW.clol ?_ ?_)
  all_goals try ((conv => whnf); with_reducible first | refine Round.mark ?_ | refine Tells.mark ?_ | refine Retold.mark ?_)
  all_goals try first | (show (_ : Bool) = _; simp_all; done) | (show (_ : Int) < _; simp at *; omega) | (show (_ : Int) ≤ _; simp at *; omega) | (show (_ : Nat) < _; simp at *; omega) | (show (_ : Nat) ≤ _; simp at *; omega)
  conv => whnf
  refine Tri.range rfl (by kernel_rfl) rfl rfl (by rfl) (by kernel_rfl) fun lb => ?_
  repeat' (first | with_reducible rfl | ((conv => whnf); first | refine And.intro ?_ ?_ | (intro h; first | exact Bool.noConfusion h | with_reducible exact h | (refine not_t h ?_; rfl) | (refine not_f h ?_; rfl) | (refine bt1 h ?_; with_reducible assumption) | (refine bt2 h ?_; with_reducible assumption) | (have ht : true = true := h; clear ht h) | skip) | ((with_reducible refine DWl.mark ?_); repeat' (first | refine DWl.cons ?_ ?_ | exact DWl.nil | exact DW.same _ rfl | exact DW.ref _ _ _ rfl | exact DW.arr _ _ _ rfl | exact DW.sub _ _ _ _ rfl | exact DW.nilLst _ | refine DW.aggl ?_ | refine DW.tupl ?_ | refine DW.clol ?_ ?_ | refine DW.int ?_ | refine DW.bool ?_ | refine DW.str ?_)) | ((with_reducible refine Tri.mark ?_); first | refine Tri.loop (stline n k lb) (fun j => j + 1 ≤ n) (fun j => n - j) 0 (by kernel_rfl) (Weak.list [(2, none)] [] (by kernel_rfl) ?_ ?_) ?_ ?_) | refine dcell_ok rfl ?_ | refine AppC.new ?_))
  all_goals first | (with_reducible refine enters_mark ?_; kernel_rfl) | (with_reducible refine boolT_mark ?_; kernel_rfl) | rfl | trivial | assumption | exact Nat.le_of_ble_eq_true rfl | (show entersB _ _ = true; kernel_rfl) | exact DW.same _ rfl | exact DW.ref _ _ _ rfl | exact DW.arr _ _ _ rfl | refine DW.int ?_ | refine dvb ?_ | refine dvi ?_ | exact OW.cells rfl rfl (DWl.same rfl) | exact Nat.zero_le _ | omega | skip
  all_goals repeat' (first | refine OW.cells rfl rfl ?_ | exact DW.nilArr _ rfl | refine DWl.cons ?_ ?_ | exact DWl.nil | exact DW.same _ rfl | exact DW.ref _ _ _ rfl | exact DW.arr _ _ _ rfl | exact DW.sub _ _ _ _ rfl | exact DW.nilLst _ | refine DW.aggl ?_ | refine DW.tupl ?_ | refine DW.clol ?_ ?_)
  all_goals try ((conv => whnf); with_reducible first | refine Round.mark ?_ | refine Tells.mark ?_ | refine Retold.mark ?_)
  all_goals try first | (show (_ : Bool) = _; simp_all; done) | (show (_ : Int) < _; simp at *; omega) | (show (_ : Int) ≤ _; simp at *; omega) | (show (_ : Nat) < _; simp at *; omega) | (show (_ : Nat) ≤ _; simp at *; omega)
  · conv => whnf
    exact rowL_zero _
  · rename_i j hj
    show j * 2 ≤ (rowL (preL (lineF) j)).length
    rw [rowL_len, pre_len]; omega
  · simp only [maxLen]; omega
  · rename_i j hj e1
    have hjn : j + 1 < n := by simp at h; omega
    refine Round.go (· + 1) (by omega) (by show n - (j + 1) < n - j; omega) (Weak.list [(2, some 4)] [] (by kernel_rfl) ?_ ?_)
    · repeat' (first | exact wsucc (k := j + 1) hjn (by omega) | exact DWl.eq (rowL_step (Prod.ext (wprev (by omega)) rfl)) (rowL_all _) | exact DW.same _ rfl | exact DW.ref _ _ _ rfl | exact DW.arr _ _ _ rfl | exact OW.cells rfl rfl (DWl.same rfl) | refine OW.cells rfl rfl ?_ | refine DWl.cons ?_ ?_ | exact DWl.nil | exact DW.nilArr _ rfl | exact DW.nilLst _ | refine DW.clol ?_ ?_ | refine DW.aggl ?_ | refine DW.tupl ?_ | refine DW.int ?_ | refine DW.bool ?_ | refine DW.str ?_ | refine DW.arrE rfl ?_ | ((conv => whnf); first | refine And.intro ?_ ?_ | trivial))
    · repeat' (first | exact wsucc (k := j + 1) hjn (by omega) | exact DWl.eq (rowL_step (Prod.ext (wprev (by omega)) rfl)) (rowL_all _) | exact DW.same _ rfl | exact DW.ref _ _ _ rfl | exact DW.arr _ _ _ rfl | exact OW.cells rfl rfl (DWl.same rfl) | refine OW.cells rfl rfl ?_ | refine DWl.cons ?_ ?_ | exact DWl.nil | exact DW.nilArr _ rfl | exact DW.nilLst _ | refine DW.clol ?_ ?_ | refine DW.aggl ?_ | refine DW.tupl ?_ | refine DW.int ?_ | refine DW.bool ?_ | refine DW.str ?_ | refine DW.arrE rfl ?_ | ((conv => whnf); first | refine And.intro ?_ ?_ | trivial))
  · rename_i j hj e1 e2
    have : j = n - 1 := by simp at e2; omega
    subst this
    conv => whnf
    refine Tri.loop (stDeg n L) (preDeg n L) (fun v => n - v) 0 (by kernel_rfl) (Weak.list [(0, some 0), (1, some 2)] [] (by kernel_rfl) ?_ ?_) ⟨Nat.zero_le _, fun u hu => absurd hu (Nat.not_lt_zero _)⟩ ?_
    · repeat' (first | exact DWl.eq (congrArg rowL hL) (rowL_all _) | exact hlen.symm | exact DW.same _ rfl | exact DW.ref _ _ _ rfl | exact DW.arr _ _ _ rfl | exact OW.cells rfl rfl (DWl.same rfl) | refine OW.cells rfl rfl ?_ | refine DWl.cons ?_ ?_ | exact DWl.nil | exact DW.nilArr _ rfl | exact DW.nilLst _ | refine DW.clol ?_ ?_ | refine DW.aggl ?_ | refine DW.tupl ?_ | refine DW.int ?_ | refine DW.bool ?_ | refine DW.str ?_ | refine DW.arrE rfl ?_ | ((conv => whnf); first | refine And.intro ?_ ?_ | trivial))
    · repeat' (first | exact DWl.eq (congrArg rowL hL) (rowL_all _) | exact hlen.symm | exact DW.same _ rfl | exact DW.ref _ _ _ rfl | exact DW.arr _ _ _ rfl | exact OW.cells rfl rfl (DWl.same rfl) | refine OW.cells rfl rfl ?_ | refine DWl.cons ?_ ?_ | exact DWl.nil | exact DW.nilArr _ rfl | exact DW.nilLst _ | refine DW.clol ?_ ?_ | refine DW.aggl ?_ | refine DW.tupl ?_ | refine DW.int ?_ | refine DW.bool ?_ | refine DW.str ?_ | refine DW.arrE rfl ?_ | ((conv => whnf); first | refine And.intro ?_ ?_ | trivial))
    intro v hv
    repeat' (first | with_reducible rfl | ((conv => whnf); first | refine And.intro ?_ ?_ | (intro h; first | exact Bool.noConfusion h | with_reducible exact h | (refine bt1 h ?_; with_reducible assumption) | (refine bt2 h ?_; with_reducible assumption) | (have ht : true = true := h; clear ht h) | skip) | ((with_reducible refine DWl.mark ?_); repeat' (first | refine DWl.cons ?_ ?_ | exact DWl.nil | exact DW.same _ rfl | exact DW.ref _ _ _ rfl | exact DW.arr _ _ _ rfl | exact DW.sub _ _ _ _ rfl | exact DW.nilLst _ | refine DW.aggl ?_ | refine DW.tupl ?_ | refine DW.clol ?_ ?_ | exact DW.pubM rfl rfl rfl rfl (linksRow L) (rowL_eq L) | refine DW.int ?_ | refine DW.bool ?_ | refine DW.str ?_)) | ((with_reducible refine SCall.mark ?_); first | (refine SCall.scalT (deg22_D L v) ?dwq rfl ?_; case dwq => (repeat' (first | refine DWl.cons ?_ ?_ | exact DWl.nil | exact DW.same _ rfl | exact DW.ref _ _ _ rfl | exact DW.arr _ _ _ rfl | exact DW.sub _ _ _ _ rfl | exact DW.nilLst _ | refine DW.aggl ?_ | refine DW.tupl ?_ | refine DW.clol ?_ ?_ | exact DW.pubM rfl rfl rfl rfl (linksRow L) (rowL_eq L) | refine DW.int ?_ | refine DW.bool ?_ | refine DW.str ?_))) | refine sortLinks (l := L) h64 rfl rfl (by omega) ?_) | ((with_reducible refine GCall.mark ?_); first | (refine GCall.scalT (fun _ => deg22_D L v) ?dwq rfl ?_; case dwq => (intro _; repeat' (first | refine DWl.cons ?_ ?_ | exact DWl.nil | exact DW.same _ rfl | exact DW.ref _ _ _ rfl | exact DW.arr _ _ _ rfl | exact DW.sub _ _ _ _ rfl | exact DW.nilLst _ | refine DW.aggl ?_ | refine DW.tupl ?_ | refine DW.clol ?_ ?_ | exact DW.pubM rfl rfl rfl rfl (linksRow L) (rowL_eq L) | refine DW.int ?_ | refine DW.bool ?_ | refine DW.str ?_)))) | refine dcell_ok rfl ?_ | refine AppC.new ?_))
    all_goals try ((conv => whnf); with_reducible refine Round.mark ?_)
    all_goals try first | ((with_reducible show Option.isSome (slElem _ _) = true); kernel_rfl) | ((with_reducible show slElem _ _ = some _); kernel_rfl) | ((with_reducible refine enters_mark ?_); kernel_rfl) | (with_reducible assumption) | ((with_reducible show List.all _ DV.one = true); rfl) | ((with_reducible show (_ : Nat) = _); rfl) | ((with_reducible show (_ == true) = true); simpa using h) | ((with_reducible show (_ : Nat) ≤ _); exact Nat.le_of_ble_eq_true rfl) | ((with_reducible show (_ : Int) ≤ _); first | omega | decide) | ((with_reducible show (_ : Int) < _); first | omega | decide) | ((with_reducible show (_ : Nat) < _); omega) | ((with_reducible show (_ : Nat) ≤ _); omega)
    · rename_i e3
      conv => whnf
      exact Tells.of (r1 := .tup [links [], int1 43]) (by rw [linksR_no (lt_int e3) (by have := of_decide_eq_true h; omega)]) (Tells.mk (DW.tupl (DWl.cons (DW.nilLst _) (DWl.cons (DW.same _ rfl) DWl.nil))))
    · rename_i e3
      have hvn := lt_int e3
      refine Round.go (· + 1) ⟨hvn, fun u hu => ?_⟩ (by show n - (v + 1) < n - v; omega) (Weak.list [(0, some 0), (1, some 1)] [] (by kernel_rfl) ?_ ?_)
      · rcases Nat.lt_succ_iff_lt_or_eq.1 hu with h5 | h5
        · exact hv.2 u h5
        · subst h5; have := of_decide_eq_false h; omega
      · repeat' (first | exact wsucc hvn (by omega) | exact DWl.eq rfl (rowL_all _) | exact DW.same _ rfl | exact DW.ref _ _ _ rfl | exact DW.arr _ _ _ rfl | exact OW.cells rfl rfl (DWl.same rfl) | refine OW.cells rfl rfl ?_ | refine DWl.cons ?_ ?_ | exact DWl.nil | exact DW.nilArr _ rfl | exact DW.nilLst _ | refine DW.clol ?_ ?_ | refine DW.aggl ?_ | refine DW.tupl ?_ | refine DW.int ?_ | refine DW.bool ?_ | refine DW.str ?_ | refine DW.arrE rfl ?_ | ((conv => whnf); first | refine And.intro ?_ ?_ | trivial))
      · repeat' (first | exact wsucc hvn (by omega) | exact DWl.eq rfl (rowL_all _) | exact DW.same _ rfl | exact DW.ref _ _ _ rfl | exact DW.arr _ _ _ rfl | exact OW.cells rfl rfl (DWl.same rfl) | refine OW.cells rfl rfl ?_ | refine DWl.cons ?_ ?_ | exact DWl.nil | exact DW.nilArr _ rfl | exact DW.nilLst _ | refine DW.clol ?_ ?_ | refine DW.aggl ?_ | refine DW.tupl ?_ | refine DW.int ?_ | refine DW.bool ?_ | refine DW.str ?_ | refine DW.arrE rfl ?_ | ((conv => whnf); first | refine And.intro ?_ ?_ | trivial))
    · have hvn : v = n := by have := ge_int h; have := hv.1; omega
      conv => whnf
      exact Tells.of (r1 := .tup [links (sortL L), int1 0]) (by rw [linksR_ok (by rw [← hvn]; exact hv.2)]) (Tells.mk (DW.tupl (DWl.cons (DW.pubM rfl (sortL_len L) rfl rfl (linksRow _) (rowL_eq _)) (DWl.cons (DW.same _ rfl) DWl.nil))))
set_option maxRecDepth 100000 in
set_option maxHeartbeats 1000000 in
theorem tree_D (n : Nat) (hn : 1 ≤ n ∧ n ≤ 16) (k : Int) (hk : 1 ≤ k) : DPure Try.prog 8 [int1 6, int1 n, int1 k] (.tup [links (linksR n (preL (treeF k) (n - 1))).1, int1 (linksR n (preL (treeF k) (n - 1))).2]) := by
  generalize hL : preL (treeF k) (n - 1) = L
  have hlen : L.length = n - 1 := by rw [← hL]; exact pre_len _ _
  have h64 : in64 L := by rw [← hL]; exact pre_in64 fun j hj => tree_in64 hk (by omega)
  refine DFun.data (DFun.body Try.func8 rfl (by kernel_rfl) ?_)
  repeat' (first | with_reducible rfl | ((conv => whnf); first | refine And.intro ?_ ?_ | (intro h; first | exact Bool.noConfusion h | with_reducible exact h | (refine not_t h ?_; rfl) | (refine not_f h ?_; rfl) | (exfalso; simp at h; omega) | (have ht : true = true := h; clear ht h) | skip) | ((with_reducible refine DWl.mark ?_); repeat' (first | refine DWl.cons ?_ ?_ | exact DWl.nil | exact DW.same _ rfl | exact DW.ref _ _ _ rfl | exact DW.arr _ _ _ rfl | exact DW.sub _ _ _ _ rfl | exact DW.nilLst _ | refine DW.aggl ?_ | refine DW.tupl ?_ | refine DW.clol ?_ ?_ | refine DW.int ?_ | refine DW.bool ?_ | refine DW.str ?_)) | ((with_reducible refine SCall.mark ?_); first | refine SCall.data (shapes_D) rfl rfl ?_ | refine SCall.run Try.func41 rfl (Nat.le_of_ble_eq_true rfl) (by kernel_rfl) ?_) | ((with_reducible refine GCall.mark ?_); first | refine GCall.data (fun _ => shapes_D) rfl rfl ?_) | ((with_reducible refine MCall.mark ?_); first | refine MCall.data (fun _ => shapes_D) rfl rfl ?_) | ((with_reducible refine ex_mark ?_); first | refine dq_look 41 5 rfl rfl rfl ?_) | refine dcell_ok rfl ?_ | refine AppC.new ?_))
  all_goals first | (with_reducible refine enters_mark ?_; kernel_rfl) | (with_reducible refine boolT_mark ?_; kernel_rfl) | rfl | trivial | assumption | exact Nat.le_of_ble_eq_true rfl | (show entersB _ _ = true; kernel_rfl) | exact DW.same _ rfl | exact DW.ref _ _ _ rfl | exact DW.arr _ _ _ rfl | refine DW.int ?_ | refine dvb ?_ | refine dvi ?_ | exact OW.cells rfl rfl (DWl.same rfl) | exact Nat.zero_le _ | omega | skip
  all_goals repeat' (first | refine OW.cells rfl rfl ?_ | exact DW.nilArr _ rfl | refine DWl.cons ?_ ?_ | exact DWl.nil | exact DW.same _ rfl | exact DW.ref _ _ _ rfl | exact DW.arr _ _ _ rfl | exact DW.sub _ _ _ _ rfl | exact DW.nilLst _ | refine DW.aggl ?_ | refine DW.tupl ?_ | refine DW.clol ?_ ?_)
  all_goals try ((conv => whnf); with_reducible first | refine Round.mark ?_ | refine Tells.mark ?_ | refine Retold.mark ?_)
  all_goals try first | (show (_ : Bool) = _; simp_all; done) | (show (_ : Int) < _; simp at *; omega) | (show (_ : Int) ≤ _; simp at *; omega) | (show (_ : Nat) < _; simp at *; omega) | (show (_ : Nat) ≤ _; simp at *; omega)
  conv => whnf
  refine Tri.range rfl (by kernel_rfl) rfl rfl (by rfl) (by kernel_rfl) fun lb => ?_
  repeat' (first | with_reducible rfl | ((conv => whnf); first | refine And.intro ?_ ?_ | (intro h; first | exact Bool.noConfusion h | with_reducible exact h | (refine not_t h ?_; rfl) | (refine not_f h ?_; rfl) | (refine bt1 h ?_; with_reducible assumption) | (refine bt2 h ?_; with_reducible assumption) | (have ht : true = true := h; clear ht h) | skip) | ((with_reducible refine DWl.mark ?_); repeat' (first | refine DWl.cons ?_ ?_ | exact DWl.nil | exact DW.same _ rfl | exact DW.ref _ _ _ rfl | exact DW.arr _ _ _ rfl | exact DW.sub _ _ _ _ rfl | exact DW.nilLst _ | refine DW.aggl ?_ | refine DW.tupl ?_ | refine DW.clol ?_ ?_ | refine DW.int ?_ | refine DW.bool ?_ | refine DW.str ?_)) | ((with_reducible refine Tri.mark ?_); first | refine Tri.loop (sttree n k lb) (fun j => j + 1 ≤ n) (fun j => n - j) 0 (by kernel_rfl) (Weak.list [(3, none)] [] (by kernel_rfl) ?_ ?_) ?_ ?_) | refine dcell_ok rfl ?_ | refine AppC.new ?_))
  all_goals first | (with_reducible refine enters_mark ?_; kernel_rfl) | (with_reducible refine boolT_mark ?_; kernel_rfl) | rfl | trivial | assumption | exact Nat.le_of_ble_eq_true rfl | (show entersB _ _ = true; kernel_rfl) | exact DW.same _ rfl | exact DW.ref _ _ _ rfl | exact DW.arr _ _ _ rfl | refine DW.int ?_ | refine dvb ?_ | refine dvi ?_ | exact OW.cells rfl rfl (DWl.same rfl) | exact Nat.zero_le _ | omega | skip
  all_goals repeat' (first | refine OW.cells rfl rfl ?_ | exact DW.nilArr _ rfl | refine DWl.cons ?_ ?_ | exact DWl.nil | exact DW.same _ rfl | exact DW.ref _ _ _ rfl | exact DW.arr _ _ _ rfl | exact DW.sub _ _ _ _ rfl | exact DW.nilLst _ | refine DW.aggl ?_ | refine DW.tupl ?_ | refine DW.clol ?_ ?_)
  all_goals try ((conv => whnf); with_reducible first | refine Round.mark ?_ | refine Tells.mark ?_ | refine Retold.mark ?_)
  all_goals try first | (show (_ : Bool) = _; simp_all; done) | (show (_ : Int) < _; simp at *; omega) | (show (_ : Int) ≤ _; simp at *; omega) | (show (_ : Nat) < _; simp at *; omega) | (show (_ : Nat) ≤ _; simp at *; omega)
  · conv => whnf
    exact rowL_zero _
  · rename_i j hj
    show j * 2 ≤ (rowL (preL (treeF k) j)).length
    rw [rowL_len, pre_len]; omega
  · simp only [maxLen]; omega
  · rename_i j hj e1
    have hjn : j + 1 < n := by simp at h; omega
    refine Round.go (· + 1) (by omega) (by show n - (j + 1) < n - j; omega) (Weak.list [(3, some 5)] [] (by kernel_rfl) ?_ ?_)
    · repeat' (first | exact wsucc (k := j + 1) hjn (by omega) | exact DWl.eq (rowL_step (Prod.ext (tree_quo hk (by omega)) rfl)) (rowL_all _) | exact DW.same _ rfl | exact DW.ref _ _ _ rfl | exact DW.arr _ _ _ rfl | exact OW.cells rfl rfl (DWl.same rfl) | refine OW.cells rfl rfl ?_ | refine DWl.cons ?_ ?_ | exact DWl.nil | exact DW.nilArr _ rfl | exact DW.nilLst _ | refine DW.clol ?_ ?_ | refine DW.aggl ?_ | refine DW.tupl ?_ | refine DW.int ?_ | refine DW.bool ?_ | refine DW.str ?_ | refine DW.arrE rfl ?_ | ((conv => whnf); first | refine And.intro ?_ ?_ | trivial))
    · repeat' (first | exact wsucc (k := j + 1) hjn (by omega) | exact DWl.eq (rowL_step (Prod.ext (tree_quo hk (by omega)) rfl)) (rowL_all _) | exact DW.same _ rfl | exact DW.ref _ _ _ rfl | exact DW.arr _ _ _ rfl | exact OW.cells rfl rfl (DWl.same rfl) | refine OW.cells rfl rfl ?_ | refine DWl.cons ?_ ?_ | exact DWl.nil | exact DW.nilArr _ rfl | exact DW.nilLst _ | refine DW.clol ?_ ?_ | refine DW.aggl ?_ | refine DW.tupl ?_ | refine DW.int ?_ | refine DW.bool ?_ | refine DW.str ?_ | refine DW.arrE rfl ?_ | ((conv => whnf); first | refine And.intro ?_ ?_ | trivial))
  · rename_i j hj e1 e2
    have : j = n - 1 := by simp at e2; omega
    subst this
    conv => whnf
    refine Tri.loop (stDeg n L) (preDeg n L) (fun v => n - v) 0 (by kernel_rfl) (Weak.list [(0, some 0), (1, some 3)] [] (by kernel_rfl) ?_ ?_) ⟨Nat.zero_le _, fun u hu => absurd hu (Nat.not_lt_zero _)⟩ ?_
    · repeat' (first | exact DWl.eq (congrArg rowL hL) (rowL_all _) | exact hlen.symm | exact DW.same _ rfl | exact DW.ref _ _ _ rfl | exact DW.arr _ _ _ rfl | exact OW.cells rfl rfl (DWl.same rfl) | refine OW.cells rfl rfl ?_ | refine DWl.cons ?_ ?_ | exact DWl.nil | exact DW.nilArr _ rfl | exact DW.nilLst _ | refine DW.clol ?_ ?_ | refine DW.aggl ?_ | refine DW.tupl ?_ | refine DW.int ?_ | refine DW.bool ?_ | refine DW.str ?_ | refine DW.arrE rfl ?_ | ((conv => whnf); first | refine And.intro ?_ ?_ | trivial))
    · repeat' (first | exact DWl.eq (congrArg rowL hL) (rowL_all _) | exact hlen.symm | exact DW.same _ rfl | exact DW.ref _ _ _ rfl | exact DW.arr _ _ _ rfl | exact OW.cells rfl rfl (DWl.same rfl) | refine OW.cells rfl rfl ?_ | refine DWl.cons ?_ ?_ | exact DWl.nil | exact DW.nilArr _ rfl | exact DW.nilLst _ | refine DW.clol ?_ ?_ | refine DW.aggl ?_ | refine DW.tupl ?_ | refine DW.int ?_ | refine DW.bool ?_ | refine DW.str ?_ | refine DW.arrE rfl ?_ | ((conv => whnf); first | refine And.intro ?_ ?_ | trivial))
    intro v hv
    repeat' (first | with_reducible rfl | ((conv => whnf); first | refine And.intro ?_ ?_ | (intro h; first | exact Bool.noConfusion h | with_reducible exact h | (refine bt1 h ?_; with_reducible assumption) | (refine bt2 h ?_; with_reducible assumption) | (have ht : true = true := h; clear ht h) | skip) | ((with_reducible refine DWl.mark ?_); repeat' (first | refine DWl.cons ?_ ?_ | exact DWl.nil | exact DW.same _ rfl | exact DW.ref _ _ _ rfl | exact DW.arr _ _ _ rfl | exact DW.sub _ _ _ _ rfl | exact DW.nilLst _ | refine DW.aggl ?_ | refine DW.tupl ?_ | refine DW.clol ?_ ?_ | exact DW.pubM rfl rfl rfl rfl (linksRow L) (rowL_eq L) | refine DW.int ?_ | refine DW.bool ?_ | refine DW.str ?_)) | ((with_reducible refine SCall.mark ?_); first | (refine SCall.scalT (deg22_D L v) ?dwq rfl ?_; case dwq => (repeat' (first | refine DWl.cons ?_ ?_ | exact DWl.nil | exact DW.same _ rfl | exact DW.ref _ _ _ rfl | exact DW.arr _ _ _ rfl | exact DW.sub _ _ _ _ rfl | exact DW.nilLst _ | refine DW.aggl ?_ | refine DW.tupl ?_ | refine DW.clol ?_ ?_ | exact DW.pubM rfl rfl rfl rfl (linksRow L) (rowL_eq L) | refine DW.int ?_ | refine DW.bool ?_ | refine DW.str ?_))) | refine sortLinks (l := L) h64 rfl rfl (by omega) ?_) | ((with_reducible refine GCall.mark ?_); first | (refine GCall.scalT (fun _ => deg22_D L v) ?dwq rfl ?_; case dwq => (intro _; repeat' (first | refine DWl.cons ?_ ?_ | exact DWl.nil | exact DW.same _ rfl | exact DW.ref _ _ _ rfl | exact DW.arr _ _ _ rfl | exact DW.sub _ _ _ _ rfl | exact DW.nilLst _ | refine DW.aggl ?_ | refine DW.tupl ?_ | refine DW.clol ?_ ?_ | exact DW.pubM rfl rfl rfl rfl (linksRow L) (rowL_eq L) | refine DW.int ?_ | refine DW.bool ?_ | refine DW.str ?_)))) | refine dcell_ok rfl ?_ | refine AppC.new ?_))
    all_goals try ((conv => whnf); with_reducible refine Round.mark ?_)
    all_goals try first | ((with_reducible show Option.isSome (slElem _ _) = true); kernel_rfl) | ((with_reducible show slElem _ _ = some _); kernel_rfl) | ((with_reducible refine enters_mark ?_); kernel_rfl) | (with_reducible assumption) | ((with_reducible show List.all _ DV.one = true); rfl) | ((with_reducible show (_ : Nat) = _); rfl) | ((with_reducible show (_ == true) = true); simpa using h) | ((with_reducible show (_ : Nat) ≤ _); exact Nat.le_of_ble_eq_true rfl) | ((with_reducible show (_ : Int) ≤ _); first | omega | decide) | ((with_reducible show (_ : Int) < _); first | omega | decide) | ((with_reducible show (_ : Nat) < _); omega) | ((with_reducible show (_ : Nat) ≤ _); omega)
    · rename_i e3
      conv => whnf
      exact Tells.of (r1 := .tup [links [], int1 43]) (by rw [linksR_no (lt_int e3) (by have := of_decide_eq_true h; omega)]) (Tells.mk (DW.tupl (DWl.cons (DW.nilLst _) (DWl.cons (DW.same _ rfl) DWl.nil))))
    · rename_i e3
      have hvn := lt_int e3
      refine Round.go (· + 1) ⟨hvn, fun u hu => ?_⟩ (by show n - (v + 1) < n - v; omega) (Weak.list [(0, some 0), (1, some 1)] [] (by kernel_rfl) ?_ ?_)
      · rcases Nat.lt_succ_iff_lt_or_eq.1 hu with h5 | h5
        · exact hv.2 u h5
        · subst h5; have := of_decide_eq_false h; omega
      · repeat' (first | exact wsucc hvn (by omega) | exact DWl.eq rfl (rowL_all _) | exact DW.same _ rfl | exact DW.ref _ _ _ rfl | exact DW.arr _ _ _ rfl | exact OW.cells rfl rfl (DWl.same rfl) | refine OW.cells rfl rfl ?_ | refine DWl.cons ?_ ?_ | exact DWl.nil | exact DW.nilArr _ rfl | exact DW.nilLst _ | refine DW.clol ?_ ?_ | refine DW.aggl ?_ | refine DW.tupl ?_ | refine DW.int ?_ | refine DW.bool ?_ | refine DW.str ?_ | refine DW.arrE rfl ?_ | ((conv => whnf); first | refine And.intro ?_ ?_ | trivial))
      · repeat' (first | exact wsucc hvn (by omega) | exact DWl.eq rfl (rowL_all _) | exact DW.same _ rfl | exact DW.ref _ _ _ rfl | exact DW.arr _ _ _ rfl | exact OW.cells rfl rfl (DWl.same rfl) | refine OW.cells rfl rfl ?_ | refine DWl.cons ?_ ?_ | exact DWl.nil | exact DW.nilArr _ rfl | exact DW.nilLst _ | refine DW.clol ?_ ?_ | refine DW.aggl ?_ | refine DW.tupl ?_ | refine DW.int ?_ | refine DW.bool ?_ | refine DW.str ?_ | refine DW.arrE rfl ?_ | ((conv => whnf); first | refine And.intro ?_ ?_ | trivial))
    · have hvn : v = n := by have := ge_int h; have := hv.1; omega
      conv => whnf
      exact Tells.of (r1 := .tup [links (sortL L), int1 0]) (by rw [linksR_ok (by rw [← hvn]; exact hv.2)]) (Tells.mk (DW.tupl (DWl.cons (DW.pubM rfl (sortL_len L) rfl rfl (linksRow _) (rowL_eq _)) (DWl.cons (DW.same _ rfl) DWl.nil))))
end Go.Proofs.Ytphgcgggbbcjgaa

/- Links of a ring. -/
namespace Go.Proofs.Ytphgcgggbbcjgaa
open Go.RowKit Go.Dl
attribute [local irreducible] Tri SCall DFun QSem PCall GCall MCall Round Weak dloadE OW DWl Tells Retold ESem

def ringL (n : Nat) : List Lk := preL lineF (n - 1) ++ (if 3 ≤ n then [(0, (n : Int) - 1)] else [])
theorem ring_lo {n : Nat} (h : ¬ 3 ≤ n) : preL lineF (n - 1) = ringL n := by rw [ringL, if_neg h, List.append_nil]
theorem ring_hi {n : Nat} (h : 3 ≤ n) {b : Int} (hb : b = (n : Int) - 1) : (rowL (preL lineF (n - 1))).take ((n - 1) * 2) ++ [.v (.int .i64 0), .v (.int .i64 b)] = rowL (ringL n) := by
  rw [rowL_push (pre_len _ _), ringL, if_pos h, hb]
theorem ring_len {n : Nat} : (ringL n).length = n - 1 + (if 3 ≤ n then 1 else 0) := by
  rw [ringL, List.length_append, pre_len]; split <;> rfl
theorem ring_in64 {n : Nat} (hn : n ≤ 16) : in64 (ringL n) := by
  unfold ringL
  intro x hx
  rcases List.mem_append.1 hx with h | h
  · exact pre_in64 (fun j hj => by simp only [lineF]; omega) x h
  · split at h
    · rw [List.mem_singleton] at h; subst h; simp only; omega
    · cases h
def string (n : Nat) (k : Int) (lb lb2 j : Nat) : St := ⟨⟨5, [.normal, .normal]⟩, tmOf [(0, .clo (.yield lb2) [] []), (1, .ref 4 0), (3, int1 ((j : Int) + 1))], .of [(0, ⟨23, 1, [.arr 5 j]⟩), (1, ⟨3, 1, [int1 n]⟩), (2, ⟨3, 1, [int1 k]⟩), (3, ⟨76, 1, [.clo (.yield lb) [] []]⟩), (4, ⟨3, 1, [int1 n]⟩), (5, ⟨44, 2, rowL (preL lineF j)⟩)] 6⟩
attribute [local irreducible] rowL preL degT sortL ringL
set_option maxRecDepth 100000 in
set_option maxHeartbeats 1000000 in
theorem ringA_D (n : Nat) (hn : 1 ≤ n ∧ n ≤ 16) (k : Int) (h3 : ¬ 3 ≤ n) : DPure Try.prog 8 [int1 2, int1 n, int1 k] (.tup [links (linksR n (ringL n)).1, int1 (linksR n (ringL n)).2]) := by
  generalize hL : ringL n = L
  have hlen : L.length = n - 1 := by rw [← hL, ring_len]; split <;> omega
  have h64 : in64 L := by rw [← hL]; exact ring_in64 hn.2
  refine DFun.data (DFun.body Try.func8 rfl (by kernel_rfl) ?_)
  repeat' (first | with_reducible rfl | ((conv => whnf); first | refine And.intro ?_ ?_ | (intro h; first | exact Bool.noConfusion h | with_reducible exact h | (refine not_t h ?_; rfl) | (refine not_f h ?_; rfl) | (exfalso; simp at h; omega) | (have ht : true = true := h; clear ht h) | skip) | ((with_reducible refine DWl.mark ?_); repeat' (first | refine DWl.cons ?_ ?_ | exact DWl.nil | exact DW.same _ rfl | exact DW.ref _ _ _ rfl | exact DW.arr _ _ _ rfl | exact DW.sub _ _ _ _ rfl | exact DW.nilLst _ | refine DW.aggl ?_ | refine DW.tupl ?_ | refine DW.clol ?_ ?_ | refine DW.int ?_ | refine DW.bool ?_ | refine DW.str ?_)) | ((with_reducible refine SCall.mark ?_); first | refine SCall.data (shapes_D) rfl rfl ?_ | refine SCall.run Try.func37 rfl (Nat.le_of_ble_eq_true rfl) (by kernel_rfl) ?_) | ((with_reducible refine GCall.mark ?_); first | refine GCall.data (fun _ => shapes_D) rfl rfl ?_) | ((with_reducible refine MCall.mark ?_); first | refine MCall.data (fun _ => shapes_D) rfl rfl ?_) | ((with_reducible refine ex_mark ?_); first | refine dq_look 37 1 rfl rfl rfl ?_) | refine dcell_ok rfl ?_ | refine AppC.new ?_))
  all_goals first | (with_reducible refine enters_mark ?_; kernel_rfl) | (with_reducible refine boolT_mark ?_; kernel_rfl) | rfl | trivial | assumption | exact Nat.le_of_ble_eq_true rfl | (show entersB _ _ = true; kernel_rfl) | exact DW.same _ rfl | exact DW.ref _ _ _ rfl | exact DW.arr _ _ _ rfl | refine DW.int ?_ | refine dvb ?_ | refine dvi ?_ | exact OW.cells rfl rfl (DWl.same rfl) | exact Nat.zero_le _ | omega | skip
  all_goals repeat' (first | refine OW.cells rfl rfl ?_ | exact DW.nilArr _ rfl | refine DWl.cons ?_ ?_ | exact DWl.nil | exact DW.same _ rfl | exact DW.ref _ _ _ rfl | exact DW.arr _ _ _ rfl | exact DW.sub _ _ _ _ rfl | exact DW.nilLst _ | refine DW.aggl ?_ | refine DW.tupl ?_ | refine DW.clol ?_ ?_)
  all_goals try ((conv => whnf); with_reducible first | refine Round.mark ?_ | refine Tells.mark ?_ | refine Retold.mark ?_)
  all_goals try first | (show (_ : Bool) = _; simp_all; done) | (show (_ : Int) < _; simp at *; omega) | (show (_ : Int) ≤ _; simp at *; omega) | (show (_ : Nat) < _; simp at *; omega) | (show (_ : Nat) ≤ _; simp at *; omega)
  conv => whnf
  refine Tri.range rfl (by kernel_rfl) rfl rfl (by rfl) (by kernel_rfl) fun lb => ?_
  repeat' (first | with_reducible rfl | ((conv => whnf); first | refine And.intro ?_ ?_ | (intro h; first | exact Bool.noConfusion h | with_reducible exact h | (refine not_t h ?_; rfl) | (refine not_f h ?_; rfl) | (have ht : true = true := h; clear ht h) | skip) | ((with_reducible refine DWl.mark ?_); repeat' (first | refine DWl.cons ?_ ?_ | exact DWl.nil | exact DW.same _ rfl | exact DW.ref _ _ _ rfl | exact DW.arr _ _ _ rfl | exact DW.sub _ _ _ _ rfl | exact DW.nilLst _ | refine DW.aggl ?_ | refine DW.tupl ?_ | refine DW.clol ?_ ?_ | refine DW.int ?_ | refine DW.bool ?_ | refine DW.str ?_)) | ((with_reducible refine SCall.mark ?_); first | refine SCall.run Try.func36 rfl (Nat.le_of_ble_eq_true rfl) (by kernel_rfl) ?_) | refine dcell_ok rfl ?_ | refine AppC.new ?_))
  all_goals first | (with_reducible refine enters_mark ?_; kernel_rfl) | (with_reducible refine boolT_mark ?_; kernel_rfl) | rfl | trivial | assumption | exact Nat.le_of_ble_eq_true rfl | (show entersB _ _ = true; kernel_rfl) | exact DW.same _ rfl | exact DW.ref _ _ _ rfl | exact DW.arr _ _ _ rfl | refine DW.int ?_ | refine dvb ?_ | refine dvi ?_ | exact OW.cells rfl rfl (DWl.same rfl) | exact Nat.zero_le _ | omega | skip
  all_goals repeat' (first | refine OW.cells rfl rfl ?_ | exact DW.nilArr _ rfl | refine DWl.cons ?_ ?_ | exact DWl.nil | exact DW.same _ rfl | exact DW.ref _ _ _ rfl | exact DW.arr _ _ _ rfl | exact DW.sub _ _ _ _ rfl | exact DW.nilLst _ | refine DW.aggl ?_ | refine DW.tupl ?_ | refine DW.clol ?_ ?_)
  all_goals try ((conv => whnf); with_reducible first | refine Round.mark ?_ | refine Tells.mark ?_ | refine Retold.mark ?_)
  all_goals try first | (show (_ : Bool) = _; simp_all; done) | (show (_ : Int) < _; simp at *; omega) | (show (_ : Int) ≤ _; simp at *; omega) | (show (_ : Nat) < _; simp at *; omega) | (show (_ : Nat) ≤ _; simp at *; omega)
  conv => whnf
  refine Tri.range rfl (by kernel_rfl) rfl rfl (by rfl) (by kernel_rfl) fun lb2 => ?_
  repeat' (first | with_reducible rfl | ((conv => whnf); first | refine And.intro ?_ ?_ | (intro h; first | exact Bool.noConfusion h | with_reducible exact h | (refine not_t h ?_; rfl) | (refine not_f h ?_; rfl) | (refine bt1 h ?_; with_reducible assumption) | (refine bt2 h ?_; with_reducible assumption) | (exfalso; simp at h; omega) | (have ht : true = true := h; clear ht h) | skip) | ((with_reducible refine DWl.mark ?_); repeat' (first | refine DWl.cons ?_ ?_ | exact DWl.nil | exact DW.same _ rfl | exact DW.ref _ _ _ rfl | exact DW.arr _ _ _ rfl | exact DW.sub _ _ _ _ rfl | exact DW.nilLst _ | refine DW.aggl ?_ | refine DW.tupl ?_ | refine DW.clol ?_ ?_ | refine DW.int ?_ | refine DW.bool ?_ | refine DW.str ?_)) | ((with_reducible refine Tri.mark ?_); first | refine Tri.loop (string n k lb lb2) (fun j => j + 1 ≤ n) (fun j => n - j) 0 (by kernel_rfl) (Weak.list [(5, none)] [] (by kernel_rfl) ?_ ?_) ?_ ?_) | refine dcell_ok rfl ?_ | refine AppC.new ?_))
  all_goals first | (with_reducible refine enters_mark ?_; kernel_rfl) | (with_reducible refine boolT_mark ?_; kernel_rfl) | rfl | trivial | assumption | exact Nat.le_of_ble_eq_true rfl | (show entersB _ _ = true; kernel_rfl) | exact DW.same _ rfl | exact DW.ref _ _ _ rfl | exact DW.arr _ _ _ rfl | refine DW.int ?_ | refine dvb ?_ | refine dvi ?_ | exact OW.cells rfl rfl (DWl.same rfl) | exact Nat.zero_le _ | omega | skip
  all_goals repeat' (first | refine OW.cells rfl rfl ?_ | exact DW.nilArr _ rfl | refine DWl.cons ?_ ?_ | exact DWl.nil | exact DW.same _ rfl | exact DW.ref _ _ _ rfl | exact DW.arr _ _ _ rfl | exact DW.sub _ _ _ _ rfl | exact DW.nilLst _ | refine DW.aggl ?_ | refine DW.tupl ?_ | refine DW.clol ?_ ?_)
  all_goals try ((conv => whnf); with_reducible first | refine Round.mark ?_ | refine Tells.mark ?_ | refine Retold.mark ?_)
  all_goals try first | (show (_ : Bool) = _; simp_all; done) | (show (_ : Int) < _; simp at *; omega) | (show (_ : Int) ≤ _; simp at *; omega) | (show (_ : Nat) < _; simp at *; omega) | (show (_ : Nat) ≤ _; simp at *; omega)
  · conv => whnf
    exact rowL_zero _
  · rename_i j hj
    show j * 2 ≤ (rowL (preL lineF j)).length
    rw [rowL_len, pre_len]; omega
  · simp only [maxLen]; omega
  · rename_i j hj e1 e2
    have hjn : j + 1 < n := by simp at h; omega
    refine Round.go (· + 1) (by omega) (by show n - (j + 1) < n - j; omega) (Weak.list [(5, some 7)] [] (by kernel_rfl) ?_ ?_)
    · repeat' (first | exact wsucc (k := j + 1) hjn (by omega) | exact DWl.eq (rowL_step (Prod.ext (wprev (by omega)) rfl)) (rowL_all _) | exact DW.same _ rfl | exact DW.ref _ _ _ rfl | exact DW.arr _ _ _ rfl | exact OW.cells rfl rfl (DWl.same rfl) | refine OW.cells rfl rfl ?_ | refine DWl.cons ?_ ?_ | exact DWl.nil | exact DW.nilArr _ rfl | exact DW.nilLst _ | refine DW.clol ?_ ?_ | refine DW.aggl ?_ | refine DW.tupl ?_ | refine DW.int ?_ | refine DW.bool ?_ | refine DW.str ?_ | refine DW.arrE rfl ?_ | ((conv => whnf); first | refine And.intro ?_ ?_ | trivial))
    · repeat' (first | exact wsucc (k := j + 1) hjn (by omega) | exact DWl.eq (rowL_step (Prod.ext (wprev (by omega)) rfl)) (rowL_all _) | exact DW.same _ rfl | exact DW.ref _ _ _ rfl | exact DW.arr _ _ _ rfl | exact OW.cells rfl rfl (DWl.same rfl) | refine OW.cells rfl rfl ?_ | refine DWl.cons ?_ ?_ | exact DWl.nil | exact DW.nilArr _ rfl | exact DW.nilLst _ | refine DW.clol ?_ ?_ | refine DW.aggl ?_ | refine DW.tupl ?_ | refine DW.int ?_ | refine DW.bool ?_ | refine DW.str ?_ | refine DW.arrE rfl ?_ | ((conv => whnf); first | refine And.intro ?_ ?_ | trivial))
  · rename_i j hj e1 e2 e3
    have : j = n - 1 := by simp at e2; omega
    subst this
    conv => whnf
    refine Tri.loop (stDeg n L) (preDeg n L) (fun v => n - v) 0 (by kernel_rfl) (Weak.list [(0, some 0), (1, some 5)] [] (by kernel_rfl) ?_ ?_) ⟨Nat.zero_le _, fun u hu => absurd hu (Nat.not_lt_zero _)⟩ ?_
    · repeat' (first | exact DWl.eq (congrArg rowL ((ring_lo h3).trans hL)) (rowL_all _) | exact hlen.symm | exact DW.same _ rfl | exact DW.ref _ _ _ rfl | exact DW.arr _ _ _ rfl | exact OW.cells rfl rfl (DWl.same rfl) | refine OW.cells rfl rfl ?_ | refine DWl.cons ?_ ?_ | exact DWl.nil | exact DW.nilArr _ rfl | exact DW.nilLst _ | refine DW.clol ?_ ?_ | refine DW.aggl ?_ | refine DW.tupl ?_ | refine DW.int ?_ | refine DW.bool ?_ | refine DW.str ?_ | refine DW.arrE rfl ?_ | ((conv => whnf); first | refine And.intro ?_ ?_ | trivial))
    · repeat' (first | exact DWl.eq (congrArg rowL ((ring_lo h3).trans hL)) (rowL_all _) | exact hlen.symm | exact DW.same _ rfl | exact DW.ref _ _ _ rfl | exact DW.arr _ _ _ rfl | exact OW.cells rfl rfl (DWl.same rfl) | refine OW.cells rfl rfl ?_ | refine DWl.cons ?_ ?_ | exact DWl.nil | exact DW.nilArr _ rfl | exact DW.nilLst _ | refine DW.clol ?_ ?_ | refine DW.aggl ?_ | refine DW.tupl ?_ | refine DW.int ?_ | refine DW.bool ?_ | refine DW.str ?_ | refine DW.arrE rfl ?_ | ((conv => whnf); first | refine And.intro ?_ ?_ | trivial))
    intro v hv
    repeat' (first | with_reducible rfl | ((conv => whnf); first | refine And.intro ?_ ?_ | (intro h; first | exact Bool.noConfusion h | with_reducible exact h | (refine bt1 h ?_; with_reducible assumption) | (refine bt2 h ?_; with_reducible assumption) | (have ht : true = true := h; clear ht h) | skip) | ((with_reducible refine DWl.mark ?_); repeat' (first | refine DWl.cons ?_ ?_ | exact DWl.nil | exact DW.same _ rfl | exact DW.ref _ _ _ rfl | exact DW.arr _ _ _ rfl | exact DW.sub _ _ _ _ rfl | exact DW.nilLst _ | refine DW.aggl ?_ | refine DW.tupl ?_ | refine DW.clol ?_ ?_ | exact DW.pubM rfl rfl rfl rfl (linksRow L) (rowL_eq L) | refine DW.int ?_ | refine DW.bool ?_ | refine DW.str ?_)) | ((with_reducible refine SCall.mark ?_); first | (refine SCall.scalT (deg22_D L v) ?dwq rfl ?_; case dwq => (repeat' (first | refine DWl.cons ?_ ?_ | exact DWl.nil | exact DW.same _ rfl | exact DW.ref _ _ _ rfl | exact DW.arr _ _ _ rfl | exact DW.sub _ _ _ _ rfl | exact DW.nilLst _ | refine DW.aggl ?_ | refine DW.tupl ?_ | refine DW.clol ?_ ?_ | exact DW.pubM rfl rfl rfl rfl (linksRow L) (rowL_eq L) | refine DW.int ?_ | refine DW.bool ?_ | refine DW.str ?_))) | refine sortLinks (l := L) h64 rfl rfl (by omega) ?_) | ((with_reducible refine GCall.mark ?_); first | (refine GCall.scalT (fun _ => deg22_D L v) ?dwq rfl ?_; case dwq => (intro _; repeat' (first | refine DWl.cons ?_ ?_ | exact DWl.nil | exact DW.same _ rfl | exact DW.ref _ _ _ rfl | exact DW.arr _ _ _ rfl | exact DW.sub _ _ _ _ rfl | exact DW.nilLst _ | refine DW.aggl ?_ | refine DW.tupl ?_ | refine DW.clol ?_ ?_ | exact DW.pubM rfl rfl rfl rfl (linksRow L) (rowL_eq L) | refine DW.int ?_ | refine DW.bool ?_ | refine DW.str ?_)))) | refine dcell_ok rfl ?_ | refine AppC.new ?_))
    all_goals try ((conv => whnf); with_reducible refine Round.mark ?_)
    all_goals try first | ((with_reducible show Option.isSome (slElem _ _) = true); kernel_rfl) | ((with_reducible show slElem _ _ = some _); kernel_rfl) | ((with_reducible refine enters_mark ?_); kernel_rfl) | (with_reducible assumption) | ((with_reducible show List.all _ DV.one = true); rfl) | ((with_reducible show (_ : Nat) = _); rfl) | ((with_reducible show (_ == true) = true); simpa using h) | ((with_reducible show (_ : Nat) ≤ _); exact Nat.le_of_ble_eq_true rfl) | ((with_reducible show (_ : Int) ≤ _); first | omega | decide) | ((with_reducible show (_ : Int) < _); first | omega | decide) | ((with_reducible show (_ : Nat) < _); omega) | ((with_reducible show (_ : Nat) ≤ _); omega)
    · rename_i e3
      conv => whnf
      exact Tells.of (r1 := .tup [links [], int1 43]) (by rw [linksR_no (lt_int e3) (by have := of_decide_eq_true h; omega)]) (Tells.mk (DW.tupl (DWl.cons (DW.nilLst _) (DWl.cons (DW.same _ rfl) DWl.nil))))
    · rename_i e3
      have hvn := lt_int e3
      refine Round.go (· + 1) ⟨hvn, fun u hu => ?_⟩ (by show n - (v + 1) < n - v; omega) (Weak.list [(0, some 0), (1, some 1)] [] (by kernel_rfl) ?_ ?_)
      · rcases Nat.lt_succ_iff_lt_or_eq.1 hu with h5 | h5
        · exact hv.2 u h5
        · subst h5; have := of_decide_eq_false h; omega
      · repeat' (first | exact wsucc hvn (by omega) | exact DWl.eq rfl (rowL_all _) | exact DW.same _ rfl | exact DW.ref _ _ _ rfl | exact DW.arr _ _ _ rfl | exact OW.cells rfl rfl (DWl.same rfl) | refine OW.cells rfl rfl ?_ | refine DWl.cons ?_ ?_ | exact DWl.nil | exact DW.nilArr _ rfl | exact DW.nilLst _ | refine DW.clol ?_ ?_ | refine DW.aggl ?_ | refine DW.tupl ?_ | refine DW.int ?_ | refine DW.bool ?_ | refine DW.str ?_ | refine DW.arrE rfl ?_ | ((conv => whnf); first | refine And.intro ?_ ?_ | trivial))
      · repeat' (first | exact wsucc hvn (by omega) | exact DWl.eq rfl (rowL_all _) | exact DW.same _ rfl | exact DW.ref _ _ _ rfl | exact DW.arr _ _ _ rfl | exact OW.cells rfl rfl (DWl.same rfl) | refine OW.cells rfl rfl ?_ | refine DWl.cons ?_ ?_ | exact DWl.nil | exact DW.nilArr _ rfl | exact DW.nilLst _ | refine DW.clol ?_ ?_ | refine DW.aggl ?_ | refine DW.tupl ?_ | refine DW.int ?_ | refine DW.bool ?_ | refine DW.str ?_ | refine DW.arrE rfl ?_ | ((conv => whnf); first | refine And.intro ?_ ?_ | trivial))
    · have hvn : v = n := by have := ge_int h; have := hv.1; omega
      conv => whnf
      exact Tells.of (r1 := .tup [links (sortL L), int1 0]) (by rw [linksR_ok (by rw [← hvn]; exact hv.2)]) (Tells.mk (DW.tupl (DWl.cons (DW.pubM rfl (sortL_len L) rfl rfl (linksRow _) (rowL_eq _)) (DWl.cons (DW.same _ rfl) DWl.nil))))
set_option maxRecDepth 100000 in
set_option maxHeartbeats 1000000 in
theorem ringB_D (n : Nat) (hn : 1 ≤ n ∧ n ≤ 16) (k : Int) (h3 : 3 ≤ n) : DPure Try.prog 8 [int1 2, int1 n, int1 k] (.tup [links (linksR n (ringL n)).1, int1 (linksR n (ringL n)).2]) := by
  generalize hL : ringL n = L
  have hlen : L.length = n - 1 + 1 := by rw [← hL, ring_len]; split <;> omega
  have h64 : in64 L := by rw [← hL]; exact ring_in64 hn.2
  refine DFun.data (DFun.body Try.func8 rfl (by kernel_rfl) ?_)
  repeat' (first | with_reducible rfl | ((conv => whnf); first | refine And.intro ?_ ?_ | (intro h; first | exact Bool.noConfusion h | with_reducible exact h | (refine not_t h ?_; rfl) | (refine not_f h ?_; rfl) | (exfalso; simp at h; omega) | (have ht : true = true := h; clear ht h) | skip) | ((with_reducible refine DWl.mark ?_); repeat' (first | refine DWl.cons ?_ ?_ | exact DWl.nil | exact DW.same _ rfl | exact DW.ref _ _ _ rfl | exact DW.arr _ _ _ rfl | exact DW.sub _ _ _ _ rfl | exact DW.nilLst _ | refine DW.aggl ?_ | refine DW.tupl ?_ | refine DW.clol ?_ ?_ | refine DW.int ?_ | refine DW.bool ?_ | refine DW.str ?_)) | ((with_reducible refine SCall.mark ?_); first | refine SCall.data (shapes_D) rfl rfl ?_ | refine SCall.run Try.func37 rfl (Nat.le_of_ble_eq_true rfl) (by kernel_rfl) ?_) | ((with_reducible refine GCall.mark ?_); first | refine GCall.data (fun _ => shapes_D) rfl rfl ?_) | ((with_reducible refine MCall.mark ?_); first | refine MCall.data (fun _ => shapes_D) rfl rfl ?_) | ((with_reducible refine ex_mark ?_); first | refine dq_look 37 1 rfl rfl rfl ?_) | refine dcell_ok rfl ?_ | refine AppC.new ?_))
  all_goals first | (with_reducible refine enters_mark ?_; kernel_rfl) | (with_reducible refine boolT_mark ?_; kernel_rfl) | rfl | trivial | assumption | exact Nat.le_of_ble_eq_true rfl | (show entersB _ _ = true; kernel_rfl) | exact DW.same _ rfl | exact DW.ref _ _ _ rfl | exact DW.arr _ _ _ rfl | refine DW.int ?_ | refine dvb ?_ | refine dvi ?_ | exact OW.cells rfl rfl (DWl.same rfl) | exact Nat.zero_le _ | omega | skip
  all_goals repeat' (first | refine OW.cells rfl rfl ?_ | exact DW.nilArr _ rfl | refine DWl.cons ?_ ?_ | exact DWl.nil | exact DW.same _ rfl | exact DW.ref _ _ _ rfl | exact DW.arr _ _ _ rfl | exact DW.sub _ _ _ _ rfl | exact DW.nilLst _ | refine DW.aggl ?_ | refine DW.tupl ?_ | refine DW.clol ?_ ?_)
  all_goals try ((conv => whnf); with_reducible first | refine Round.mark ?_ | refine Tells.mark ?_ | refine Retold.mark ?_)
  all_goals try first | (show (_ : Bool) = _; simp_all; done) | (show (_ : Int) < _; simp at *; omega) | (show (_ : Int) ≤ _; simp at *; omega) | (show (_ : Nat) < _; simp at *; omega) | (show (_ : Nat) ≤ _; simp at *; omega)
  conv => whnf
  refine Tri.range rfl (by kernel_rfl) rfl rfl (by rfl) (by kernel_rfl) fun lb => ?_
  repeat' (first | with_reducible rfl | ((conv => whnf); first | refine And.intro ?_ ?_ | (intro h; first | exact Bool.noConfusion h | with_reducible exact h | (refine not_t h ?_; rfl) | (refine not_f h ?_; rfl) | (have ht : true = true := h; clear ht h) | skip) | ((with_reducible refine DWl.mark ?_); repeat' (first | refine DWl.cons ?_ ?_ | exact DWl.nil | exact DW.same _ rfl | exact DW.ref _ _ _ rfl | exact DW.arr _ _ _ rfl | exact DW.sub _ _ _ _ rfl | exact DW.nilLst _ | refine DW.aggl ?_ | refine DW.tupl ?_ | refine DW.clol ?_ ?_ | refine DW.int ?_ | refine DW.bool ?_ | refine DW.str ?_)) | ((with_reducible refine SCall.mark ?_); first | refine SCall.run Try.func36 rfl (Nat.le_of_ble_eq_true rfl) (by kernel_rfl) ?_) | refine dcell_ok rfl ?_ | refine AppC.new ?_))
  all_goals first | (with_reducible refine enters_mark ?_; kernel_rfl) | (with_reducible refine boolT_mark ?_; kernel_rfl) | rfl | trivial | assumption | exact Nat.le_of_ble_eq_true rfl | (show entersB _ _ = true; kernel_rfl) | exact DW.same _ rfl | exact DW.ref _ _ _ rfl | exact DW.arr _ _ _ rfl | refine DW.int ?_ | refine dvb ?_ | refine dvi ?_ | exact OW.cells rfl rfl (DWl.same rfl) | exact Nat.zero_le _ | omega | skip
  all_goals repeat' (first | refine OW.cells rfl rfl ?_ | exact DW.nilArr _ rfl | refine DWl.cons ?_ ?_ | exact DWl.nil | exact DW.same _ rfl | exact DW.ref _ _ _ rfl | exact DW.arr _ _ _ rfl | exact DW.sub _ _ _ _ rfl | exact DW.nilLst _ | refine DW.aggl ?_ | refine DW.tupl ?_ | refine DW.clol ?_ ?_)
  all_goals try ((conv => whnf); with_reducible first | refine Round.mark ?_ | refine Tells.mark ?_ | refine Retold.mark ?_)
  all_goals try first | (show (_ : Bool) = _; simp_all; done) | (show (_ : Int) < _; simp at *; omega) | (show (_ : Int) ≤ _; simp at *; omega) | (show (_ : Nat) < _; simp at *; omega) | (show (_ : Nat) ≤ _; simp at *; omega)
  conv => whnf
  refine Tri.range rfl (by kernel_rfl) rfl rfl (by rfl) (by kernel_rfl) fun lb2 => ?_
  repeat' (first | with_reducible rfl | ((conv => whnf); first | refine And.intro ?_ ?_ | (intro h; first | exact Bool.noConfusion h | with_reducible exact h | (refine not_t h ?_; rfl) | (refine not_f h ?_; rfl) | (refine bt1 h ?_; with_reducible assumption) | (refine bt2 h ?_; with_reducible assumption) | (exfalso; simp at h; omega) | (have ht : true = true := h; clear ht h) | skip) | ((with_reducible refine DWl.mark ?_); repeat' (first | refine DWl.cons ?_ ?_ | exact DWl.nil | exact DW.same _ rfl | exact DW.ref _ _ _ rfl | exact DW.arr _ _ _ rfl | exact DW.sub _ _ _ _ rfl | exact DW.nilLst _ | refine DW.aggl ?_ | refine DW.tupl ?_ | refine DW.clol ?_ ?_ | refine DW.int ?_ | refine DW.bool ?_ | refine DW.str ?_)) | ((with_reducible refine Tri.mark ?_); first | refine Tri.loop (string n k lb lb2) (fun j => j + 1 ≤ n) (fun j => n - j) 0 (by kernel_rfl) (Weak.list [(5, none)] [] (by kernel_rfl) ?_ ?_) ?_ ?_) | refine dcell_ok rfl ?_ | refine AppC.new ?_))
  all_goals first | (with_reducible refine enters_mark ?_; kernel_rfl) | (with_reducible refine boolT_mark ?_; kernel_rfl) | rfl | trivial | assumption | exact Nat.le_of_ble_eq_true rfl | (show entersB _ _ = true; kernel_rfl) | exact DW.same _ rfl | exact DW.ref _ _ _ rfl | exact DW.arr _ _ _ rfl | refine DW.int ?_ | refine dvb ?_ | refine dvi ?_ | exact OW.cells rfl rfl (DWl.same rfl) | exact Nat.zero_le _ | omega | skip
  all_goals repeat' (first | refine OW.cells rfl rfl ?_ | exact DW.nilArr _ rfl | refine DWl.cons ?_ ?_ | exact DWl.nil | exact DW.same _ rfl | exact DW.ref _ _ _ rfl | exact DW.arr _ _ _ rfl | exact DW.sub _ _ _ _ rfl | exact DW.nilLst _ | refine DW.aggl ?_ | refine DW.tupl ?_ | refine DW.clol ?_ ?_)
  all_goals try ((conv => whnf); with_reducible first | refine Round.mark ?_ | refine Tells.mark ?_ | refine Retold.mark ?_)
  all_goals try first | (show (_ : Bool) = _; simp_all; done) | (show (_ : Int) < _; simp at *; omega) | (show (_ : Int) ≤ _; simp at *; omega) | (show (_ : Nat) < _; simp at *; omega) | (show (_ : Nat) ≤ _; simp at *; omega)
  · conv => whnf
    exact rowL_zero _
  · rename_i j hj
    show j * 2 ≤ (rowL (preL lineF j)).length
    rw [rowL_len, pre_len]; omega
  · simp only [maxLen]; omega
  · rename_i j hj e1 e2
    have hjn : j + 1 < n := by simp at h; omega
    refine Round.go (· + 1) (by omega) (by show n - (j + 1) < n - j; omega) (Weak.list [(5, some 7)] [] (by kernel_rfl) ?_ ?_)
    · repeat' (first | exact wsucc (k := j + 1) hjn (by omega) | exact DWl.eq (rowL_step (Prod.ext (wprev (by omega)) rfl)) (rowL_all _) | exact DW.same _ rfl | exact DW.ref _ _ _ rfl | exact DW.arr _ _ _ rfl | exact OW.cells rfl rfl (DWl.same rfl) | refine OW.cells rfl rfl ?_ | refine DWl.cons ?_ ?_ | exact DWl.nil | exact DW.nilArr _ rfl | exact DW.nilLst _ | refine DW.clol ?_ ?_ | refine DW.aggl ?_ | refine DW.tupl ?_ | refine DW.int ?_ | refine DW.bool ?_ | refine DW.str ?_ | refine DW.arrE rfl ?_ | ((conv => whnf); first | refine And.intro ?_ ?_ | trivial))
    · repeat' (first | exact wsucc (k := j + 1) hjn (by omega) | exact DWl.eq (rowL_step (Prod.ext (wprev (by omega)) rfl)) (rowL_all _) | exact DW.same _ rfl | exact DW.ref _ _ _ rfl | exact DW.arr _ _ _ rfl | exact OW.cells rfl rfl (DWl.same rfl) | refine OW.cells rfl rfl ?_ | refine DWl.cons ?_ ?_ | exact DWl.nil | exact DW.nilArr _ rfl | exact DW.nilLst _ | refine DW.clol ?_ ?_ | refine DW.aggl ?_ | refine DW.tupl ?_ | refine DW.int ?_ | refine DW.bool ?_ | refine DW.str ?_ | refine DW.arrE rfl ?_ | ((conv => whnf); first | refine And.intro ?_ ?_ | trivial))
  · rename_i j hj e1 e2 e3
    show j * 2 ≤ (rowL (preL lineF j)).length
    rw [rowL_len, pre_len]; omega
  · simp only [maxLen]; omega
  · rename_i j hj e1 e2 e3
    have : j = n - 1 := by simp at e2; omega
    subst this
    conv => whnf
    refine Tri.loop (stDeg n L) (preDeg n L) (fun v => n - v) 0 (by kernel_rfl) (Weak.list [(0, some 0), (1, some 7)] [] (by kernel_rfl) ?_ ?_) ⟨Nat.zero_le _, fun u hu => absurd hu (Nat.not_lt_zero _)⟩ ?_
    · repeat' (first | exact DWl.eq ((ring_hi h3 (wrapI (by omega) (by omega))).trans (congrArg rowL hL)) (rowL_all _) | exact hlen.symm | exact DW.same _ rfl | exact DW.ref _ _ _ rfl | exact DW.arr _ _ _ rfl | exact OW.cells rfl rfl (DWl.same rfl) | refine OW.cells rfl rfl ?_ | refine DWl.cons ?_ ?_ | exact DWl.nil | exact DW.nilArr _ rfl | exact DW.nilLst _ | refine DW.clol ?_ ?_ | refine DW.aggl ?_ | refine DW.tupl ?_ | refine DW.int ?_ | refine DW.bool ?_ | refine DW.str ?_ | refine DW.arrE rfl ?_ | ((conv => whnf); first | refine And.intro ?_ ?_ | trivial))
    · repeat' (first | exact DWl.eq ((ring_hi h3 (wrapI (by omega) (by omega))).trans (congrArg rowL hL)) (rowL_all _) | exact hlen.symm | exact DW.same _ rfl | exact DW.ref _ _ _ rfl | exact DW.arr _ _ _ rfl | exact OW.cells rfl rfl (DWl.same rfl) | refine OW.cells rfl rfl ?_ | refine DWl.cons ?_ ?_ | exact DWl.nil | exact DW.nilArr _ rfl | exact DW.nilLst _ | refine DW.clol ?_ ?_ | refine DW.aggl ?_ | refine DW.tupl ?_ | refine DW.int ?_ | refine DW.bool ?_ | refine DW.str ?_ | refine DW.arrE rfl ?_ | ((conv => whnf); first | refine And.intro ?_ ?_ | trivial))
    intro v hv
    repeat' (first | with_reducible rfl | ((conv => whnf); first | refine And.intro ?_ ?_ | (intro h; first | exact Bool.noConfusion h | with_reducible exact h | (refine bt1 h ?_; with_reducible assumption) | (refine bt2 h ?_; with_reducible assumption) | (have ht : true = true := h; clear ht h) | skip) | ((with_reducible refine DWl.mark ?_); repeat' (first | refine DWl.cons ?_ ?_ | exact DWl.nil | exact DW.same _ rfl | exact DW.ref _ _ _ rfl | exact DW.arr _ _ _ rfl | exact DW.sub _ _ _ _ rfl | exact DW.nilLst _ | refine DW.aggl ?_ | refine DW.tupl ?_ | refine DW.clol ?_ ?_ | exact DW.pubM rfl rfl rfl rfl (linksRow L) (rowL_eq L) | refine DW.int ?_ | refine DW.bool ?_ | refine DW.str ?_)) | ((with_reducible refine SCall.mark ?_); first | (refine SCall.scalT (deg22_D L v) ?dwq rfl ?_; case dwq => (repeat' (first | refine DWl.cons ?_ ?_ | exact DWl.nil | exact DW.same _ rfl | exact DW.ref _ _ _ rfl | exact DW.arr _ _ _ rfl | exact DW.sub _ _ _ _ rfl | exact DW.nilLst _ | refine DW.aggl ?_ | refine DW.tupl ?_ | refine DW.clol ?_ ?_ | exact DW.pubM rfl rfl rfl rfl (linksRow L) (rowL_eq L) | refine DW.int ?_ | refine DW.bool ?_ | refine DW.str ?_))) | refine sortLinks (l := L) h64 rfl rfl (by omega) ?_) | ((with_reducible refine GCall.mark ?_); first | (refine GCall.scalT (fun _ => deg22_D L v) ?dwq rfl ?_; case dwq => (intro _; repeat' (first | refine DWl.cons ?_ ?_ | exact DWl.nil | exact DW.same _ rfl | exact DW.ref _ _ _ rfl | exact DW.arr _ _ _ rfl | exact DW.sub _ _ _ _ rfl | exact DW.nilLst _ | refine DW.aggl ?_ | refine DW.tupl ?_ | refine DW.clol ?_ ?_ | exact DW.pubM rfl rfl rfl rfl (linksRow L) (rowL_eq L) | refine DW.int ?_ | refine DW.bool ?_ | refine DW.str ?_)))) | refine dcell_ok rfl ?_ | refine AppC.new ?_))
    all_goals try ((conv => whnf); with_reducible refine Round.mark ?_)
    all_goals try first | ((with_reducible show Option.isSome (slElem _ _) = true); kernel_rfl) | ((with_reducible show slElem _ _ = some _); kernel_rfl) | ((with_reducible refine enters_mark ?_); kernel_rfl) | (with_reducible assumption) | ((with_reducible show List.all _ DV.one = true); rfl) | ((with_reducible show (_ : Nat) = _); rfl) | ((with_reducible show (_ == true) = true); simpa using h) | ((with_reducible show (_ : Nat) ≤ _); exact Nat.le_of_ble_eq_true rfl) | ((with_reducible show (_ : Int) ≤ _); first | omega | decide) | ((with_reducible show (_ : Int) < _); first | omega | decide) | ((with_reducible show (_ : Nat) < _); omega) | ((with_reducible show (_ : Nat) ≤ _); omega)
    · rename_i e3
      conv => whnf
      exact Tells.of (r1 := .tup [links [], int1 43]) (by rw [linksR_no (lt_int e3) (by have := of_decide_eq_true h; omega)]) (Tells.mk (DW.tupl (DWl.cons (DW.nilLst _) (DWl.cons (DW.same _ rfl) DWl.nil))))
    · rename_i e3
      have hvn := lt_int e3
      refine Round.go (· + 1) ⟨hvn, fun u hu => ?_⟩ (by show n - (v + 1) < n - v; omega) (Weak.list [(0, some 0), (1, some 1)] [] (by kernel_rfl) ?_ ?_)
      · rcases Nat.lt_succ_iff_lt_or_eq.1 hu with h5 | h5
        · exact hv.2 u h5
        · subst h5; have := of_decide_eq_false h; omega
      · repeat' (first | exact wsucc hvn (by omega) | exact DWl.eq rfl (rowL_all _) | exact DW.same _ rfl | exact DW.ref _ _ _ rfl | exact DW.arr _ _ _ rfl | exact OW.cells rfl rfl (DWl.same rfl) | refine OW.cells rfl rfl ?_ | refine DWl.cons ?_ ?_ | exact DWl.nil | exact DW.nilArr _ rfl | exact DW.nilLst _ | refine DW.clol ?_ ?_ | refine DW.aggl ?_ | refine DW.tupl ?_ | refine DW.int ?_ | refine DW.bool ?_ | refine DW.str ?_ | refine DW.arrE rfl ?_ | ((conv => whnf); first | refine And.intro ?_ ?_ | trivial))
      · repeat' (first | exact wsucc hvn (by omega) | exact DWl.eq rfl (rowL_all _) | exact DW.same _ rfl | exact DW.ref _ _ _ rfl | exact DW.arr _ _ _ rfl | exact OW.cells rfl rfl (DWl.same rfl) | refine OW.cells rfl rfl ?_ | refine DWl.cons ?_ ?_ | exact DWl.nil | exact DW.nilArr _ rfl | exact DW.nilLst _ | refine DW.clol ?_ ?_ | refine DW.aggl ?_ | refine DW.tupl ?_ | refine DW.int ?_ | refine DW.bool ?_ | refine DW.str ?_ | refine DW.arrE rfl ?_ | ((conv => whnf); first | refine And.intro ?_ ?_ | trivial))
    · have hvn : v = n := by have := ge_int h; have := hv.1; omega
      conv => whnf
      exact Tells.of (r1 := .tup [links (sortL L), int1 0]) (by rw [linksR_ok (by rw [← hvn]; exact hv.2)]) (Tells.mk (DW.tupl (DWl.cons (DW.pubM rfl (sortL_len L) rfl rfl (linksRow _) (rowL_eq _)) (DWl.cons (DW.same _ rfl) DWl.nil))))
end Go.Proofs.Ytphgcgggbbcjgaa

/- Links of all pairs. -/
namespace Go.Proofs.Ytphgcgggbbcjgaa
open Go.RowKit Go.Dl
attribute [local irreducible] Tri SCall DFun QSem PCall GCall MCall Round Weak dloadE OW DWl Tells Retold ESem

def fullR (a i : Nat) : List Lk := (List.range i).map fun (i : Nat) => ((a : Int), (a : Int) + 1 + i)
def fullP (n a : Nat) : List Lk := (List.range a).flatMap fun a => fullR a (n - 1 - a)
def fullI (n a i : Nat) : List Lk := fullP n a ++ fullR a i
theorem full_zero (n a : Nat) : fullP n a = fullI n a 0 := by simp [fullI, fullR]
theorem full_next (n a : Nat) : fullI n a (n - 1 - a) = fullP n (a + 1) := by simp [fullI, fullP, List.range_succ]
theorem full_step (n a i : Nat) : fullI n a (i + 1) = fullI n a i ++ [((a : Int), (a : Int) + 1 + i)] := by simp [fullI, fullR, List.range_succ]
theorem fullP_len (n a : Nat) (hn : n ≤ 16) : (fullP n a).length ≤ a * 16 := by
  induction a with
  | zero => simp [fullP]
  | succ a ih =>
    rw [← full_next, fullI, List.length_append]
    simp only [fullR, List.length_map, List.length_range]; omega
theorem fullI_len (n a i : Nat) (hn : n ≤ 16) : (fullI n a i).length ≤ a * 16 + i := by
  have := fullP_len n a hn
  rw [fullI, List.length_append]
  simp only [fullR, List.length_map, List.length_range]; omega
theorem full_in64 {n : Nat} (hn : n ≤ 16) : in64 (fullP n n) := fun x hx => by
  obtain ⟨a, ha, h⟩ := List.mem_flatMap.1 hx
  obtain ⟨i, hi, rfl⟩ := List.mem_map.1 h
  rw [List.mem_range] at ha hi
  simp only; omega
theorem full_row {n a i : Nat} : (rowL (fullI n a i)).take ((fullI n a i).length * 2) ++ [.v (.int .i64 a), .v (.int .i64 ((a : Int) + 1 + i))] = rowL (fullI n a (i + 1)) := by
  rw [rowL_push rfl, full_step]
theorem wadd1 {a i : Nat} (ha : a < 100) (hi : i < 100) : IntKind.i64.wrap ((a : Int) + 1 + i + 1) = (a : Int) + 1 + ((i + 1 : Nat) : Int) := by rw [wrapI (by omega) (by omega)]; omega
theorem DW.nilArrE {ρ : Nat → Option Nat} {s : Sto} {pub : Nat → Prop} {id n : Nat} (h : ρ id = none) (hn : n = 0) : DW ρ s pub (.v (.slice none 0 0)) (.arr id n) := by subst hn; exact DW.nilArr _ h
theorem full_len1 (n a i : Nat) : (fullI n a i).length + 1 = (fullI n a (i + 1)).length := by rw [full_step, List.length_append]; rfl
theorem full_len0 (n : Nat) : (fullP n 0).length = 0 := rfl
theorem full_in0 {a : Nat} (h : a < 100) : IntKind.i64.wrap ((a : Int) + 1) = (a : Int) + 1 + ((0 : Nat) : Int) := by rw [wrapI (by omega) (by omega)]; omega
def stfull (n lb a : Nat) : St := ⟨⟨2, [.normal]⟩, tmOf [(0, .clo (.yield lb) [] []), (1, .ref 1 0), (5, int1 n), (6, int1 a)], .of [(0, ⟨23, 1, [.arr 2 (fullP n a).length]⟩), (1, ⟨3, 1, [int1 n]⟩), (2, ⟨44, 2, rowL (fullP n a)⟩)] 3⟩
def infull (n lb a i : Nat) : St := ⟨⟨2, [.normal]⟩, tmOf [(0, .clo (.yield lb) [] []), (1, .ref 1 0), (3, int1 a), (4, int1 ((a : Int) + 1 + i)), (5, int1 n), (6, int1 a)], .of [(0, ⟨23, 1, [.arr 2 (fullI n a i).length]⟩), (1, ⟨3, 1, [int1 n]⟩), (2, ⟨44, 2, rowL (fullI n a i)⟩)] 3⟩
theorem full_rowz (n : Nat) : rowL (fullP n 0) = [] := rfl
attribute [local irreducible] rowL preL degT sortL fullP fullI
set_option maxRecDepth 100000 in
set_option maxHeartbeats 1000000 in
theorem full_D (n : Nat) (hn : 1 ≤ n ∧ n ≤ 16) (k : Int) : DPure Try.prog 8 [int1 4, int1 n, int1 k] (.tup [links (linksR n (fullP n n)).1, int1 (linksR n (fullP n n)).2]) := by
  generalize hL : fullP n n = L
  have hlen : L.length = (fullP n n).length := by rw [← hL]
  have hll : L.length ≤ 16 * 16 := by rw [← hL]; have := fullP_len n n hn.2; omega
  have h64 : in64 L := by rw [← hL]; exact full_in64 hn.2
  refine DFun.data (DFun.body Try.func8 rfl (by kernel_rfl) ?_)
  repeat' (first | with_reducible rfl | ((conv => whnf); first | refine And.intro ?_ ?_ | (intro h; first | exact Bool.noConfusion h | with_reducible exact h | (refine not_t h ?_; rfl) | (refine not_f h ?_; rfl) | (exfalso; simp at h; omega) | (have ht : true = true := h; clear ht h) | skip) | ((with_reducible refine DWl.mark ?_); repeat' (first | refine DWl.cons ?_ ?_ | exact DWl.nil | exact DW.same _ rfl | exact DW.ref _ _ _ rfl | exact DW.arr _ _ _ rfl | exact DW.sub _ _ _ _ rfl | exact DW.nilLst _ | refine DW.aggl ?_ | refine DW.tupl ?_ | refine DW.clol ?_ ?_ | refine DW.int ?_ | refine DW.bool ?_ | refine DW.str ?_)) | ((with_reducible refine SCall.mark ?_); first | refine SCall.data (shapes_D) rfl rfl ?_ | refine SCall.run Try.func39 rfl (Nat.le_of_ble_eq_true rfl) (by kernel_rfl) ?_) | ((with_reducible refine GCall.mark ?_); first | refine GCall.data (fun _ => shapes_D) rfl rfl ?_) | ((with_reducible refine MCall.mark ?_); first | refine MCall.data (fun _ => shapes_D) rfl rfl ?_) | ((with_reducible refine ex_mark ?_); first | refine dq_look 39 3 rfl rfl rfl ?_) | refine dcell_ok rfl ?_ | refine AppC.new ?_))
  all_goals first | (with_reducible refine enters_mark ?_; kernel_rfl) | (with_reducible refine boolT_mark ?_; kernel_rfl) | rfl | trivial | assumption | exact Nat.le_of_ble_eq_true rfl | (show entersB _ _ = true; kernel_rfl) | exact DW.same _ rfl | exact DW.ref _ _ _ rfl | exact DW.arr _ _ _ rfl | refine DW.int ?_ | refine dvb ?_ | refine dvi ?_ | exact OW.cells rfl rfl (DWl.same rfl) | exact Nat.zero_le _ | omega | skip
  all_goals repeat' (first | refine OW.cells rfl rfl ?_ | exact DW.nilArr _ rfl | refine DWl.cons ?_ ?_ | exact DWl.nil | exact DW.same _ rfl | exact DW.ref _ _ _ rfl | exact DW.arr _ _ _ rfl | exact DW.sub _ _ _ _ rfl | exact DW.nilLst _ | refine DW.aggl ?_ | refine DW.tupl ?_ | refine DW.clol ?_ ?_)
  all_goals try ((conv => whnf); with_reducible first | refine Round.mark ?_ | refine Tells.mark ?_ | refine Retold.mark ?_)
  all_goals try first | (show (_ : Bool) = _; simp_all; done) | (show (_ : Int) < _; simp at *; omega) | (show (_ : Int) ≤ _; simp at *; omega) | (show (_ : Nat) < _; simp at *; omega) | (show (_ : Nat) ≤ _; simp at *; omega)
  conv => whnf
  refine Tri.range rfl (by kernel_rfl) rfl rfl (by rfl) (by kernel_rfl) fun lb => ?_
  repeat' (first | with_reducible rfl | ((conv => whnf); first | refine And.intro ?_ ?_ | (intro h; first | exact Bool.noConfusion h | with_reducible exact h | (refine not_t h ?_; rfl) | (refine not_f h ?_; rfl) | (refine bt1 h ?_; with_reducible assumption) | (refine bt2 h ?_; with_reducible assumption) | (have ht : true = true := h; clear ht h) | skip) | ((with_reducible refine DWl.mark ?_); repeat' (first | refine DWl.cons ?_ ?_ | exact DWl.nil | exact DW.same _ rfl | exact DW.ref _ _ _ rfl | exact DW.arr _ _ _ rfl | exact DW.sub _ _ _ _ rfl | exact DW.nilLst _ | refine DW.aggl ?_ | refine DW.tupl ?_ | refine DW.clol ?_ ?_ | refine DW.int ?_ | refine DW.bool ?_ | refine DW.str ?_)) | refine dcell_ok rfl ?_ | refine AppC.new ?_))
  all_goals first | (with_reducible refine enters_mark ?_; kernel_rfl) | (with_reducible refine boolT_mark ?_; kernel_rfl) | rfl | trivial | assumption | exact Nat.le_of_ble_eq_true rfl | (show entersB _ _ = true; kernel_rfl) | exact DW.same _ rfl | exact DW.ref _ _ _ rfl | exact DW.arr _ _ _ rfl | refine DW.int ?_ | refine dvb ?_ | refine dvi ?_ | exact OW.cells rfl rfl (DWl.same rfl) | exact Nat.zero_le _ | omega | skip
  all_goals repeat' (first | refine OW.cells rfl rfl ?_ | exact DW.nilArr _ rfl | refine DWl.cons ?_ ?_ | exact DWl.nil | exact DW.same _ rfl | exact DW.ref _ _ _ rfl | exact DW.arr _ _ _ rfl | exact DW.sub _ _ _ _ rfl | exact DW.nilLst _ | refine DW.aggl ?_ | refine DW.tupl ?_ | refine DW.clol ?_ ?_)
  all_goals try ((conv => whnf); with_reducible first | refine Round.mark ?_ | refine Tells.mark ?_ | refine Retold.mark ?_)
  all_goals try first | (show (_ : Bool) = _; simp_all; done) | (show (_ : Int) < _; simp at *; omega) | (show (_ : Int) ≤ _; simp at *; omega) | (show (_ : Nat) < _; simp at *; omega) | (show (_ : Nat) ≤ _; simp at *; omega)
  conv => whnf
  refine Tri.scope (by kernel_rfl) ?_
  repeat' (first | with_reducible rfl | ((conv => whnf); first | refine And.intro ?_ ?_ | (intro h; first | exact Bool.noConfusion h | with_reducible exact h | (refine not_t h ?_; rfl) | (refine not_f h ?_; rfl) | (refine bt1 h ?_; with_reducible assumption) | (refine bt2 h ?_; with_reducible assumption) | (have ht : true = true := h; clear ht h) | skip) | ((with_reducible refine DWl.mark ?_); repeat' (first | refine DWl.cons ?_ ?_ | exact DWl.nil | exact DW.same _ rfl | exact DW.ref _ _ _ rfl | exact DW.arr _ _ _ rfl | exact DW.sub _ _ _ _ rfl | exact DW.nilLst _ | refine DW.aggl ?_ | refine DW.tupl ?_ | refine DW.clol ?_ ?_ | refine DW.int ?_ | refine DW.bool ?_ | refine DW.str ?_)) | refine dcell_ok rfl ?_ | refine AppC.new ?_))
  conv => whnf
  refine Tri.loop (stfull n lb) (· ≤ n) (fun a => n - a) 0 (by kernel_rfl) (Weak.list [(2, none)] [] (by kernel_rfl) ?_ ?_) (Nat.zero_le _) ?_
  · repeat' (first | exact full_rowz _ | exact DW.nilArrE rfl (full_len0 n) | exact DW.same _ rfl | exact DW.ref _ _ _ rfl | exact DW.arr _ _ _ rfl | exact OW.cells rfl rfl (DWl.same rfl) | refine OW.cells rfl rfl ?_ | refine DWl.cons ?_ ?_ | exact DWl.nil | exact DW.nilArr _ rfl | exact DW.nilLst _ | refine DW.clol ?_ ?_ | refine DW.aggl ?_ | refine DW.tupl ?_ | refine DW.int ?_ | refine DW.bool ?_ | refine DW.str ?_ | refine DW.arrE rfl ?_ | ((conv => whnf); first | refine And.intro ?_ ?_ | trivial))
  · repeat' (first | exact full_rowz _ | exact DW.nilArrE rfl (full_len0 n) | exact DW.same _ rfl | exact DW.ref _ _ _ rfl | exact DW.arr _ _ _ rfl | exact OW.cells rfl rfl (DWl.same rfl) | refine OW.cells rfl rfl ?_ | refine DWl.cons ?_ ?_ | exact DWl.nil | exact DW.nilArr _ rfl | exact DW.nilLst _ | refine DW.clol ?_ ?_ | refine DW.aggl ?_ | refine DW.tupl ?_ | refine DW.int ?_ | refine DW.bool ?_ | refine DW.str ?_ | refine DW.arrE rfl ?_ | ((conv => whnf); first | refine And.intro ?_ ?_ | trivial))
  intro a ha
  repeat' (first | with_reducible rfl | ((conv => whnf); first | refine And.intro ?_ ?_ | (intro h; first | exact Bool.noConfusion h | with_reducible exact h | (refine not_t h ?_; rfl) | (refine not_f h ?_; rfl) | (refine bt1 h ?_; with_reducible assumption) | (refine bt2 h ?_; with_reducible assumption) | (have ht : true = true := h; clear ht h) | skip) | ((with_reducible refine DWl.mark ?_); repeat' (first | refine DWl.cons ?_ ?_ | exact DWl.nil | exact DW.same _ rfl | exact DW.ref _ _ _ rfl | exact DW.arr _ _ _ rfl | exact DW.sub _ _ _ _ rfl | exact DW.nilLst _ | refine DW.aggl ?_ | refine DW.tupl ?_ | refine DW.clol ?_ ?_ | refine DW.int ?_ | refine DW.bool ?_ | refine DW.str ?_)) | refine dcell_ok rfl ?_ | refine AppC.new ?_))
  all_goals try ((conv => whnf); with_reducible refine Round.mark ?_)
  all_goals try first | ((with_reducible show Option.isSome (slElem _ _) = true); kernel_rfl) | ((with_reducible show slElem _ _ = some _); kernel_rfl) | ((with_reducible refine enters_mark ?_); kernel_rfl) | (with_reducible assumption) | ((with_reducible show List.all _ DV.one = true); rfl) | ((with_reducible show (_ : Nat) = _); rfl) | ((with_reducible show (_ == true) = true); simpa using h) | ((with_reducible show (_ : Nat) ≤ _); exact Nat.le_of_ble_eq_true rfl) | ((with_reducible show (_ : Int) ≤ _); first | omega | decide) | ((with_reducible show (_ : Int) < _); first | omega | decide) | ((with_reducible show (_ : Nat) < _); omega) | ((with_reducible show (_ : Nat) ≤ _); omega)
  · have han := lt_int h
    conv => whnf
    refine Tri.loop (infull n lb a) (fun i => a + 1 + i ≤ n) (fun i => n - i) 0 (by kernel_rfl) (Weak.list [(2, some 2)] [] (by kernel_rfl) ?_ ?_) (by omega) ?_
    · repeat' (first | exact DWl.eq (congrArg rowL (full_zero n a)) (rowL_all _) | exact congrArg List.length (full_zero n a) | exact full_in0 (by omega) | exact DW.same _ rfl | exact DW.ref _ _ _ rfl | exact DW.arr _ _ _ rfl | exact OW.cells rfl rfl (DWl.same rfl) | refine OW.cells rfl rfl ?_ | refine DWl.cons ?_ ?_ | exact DWl.nil | exact DW.nilArr _ rfl | exact DW.nilLst _ | refine DW.clol ?_ ?_ | refine DW.aggl ?_ | refine DW.tupl ?_ | refine DW.int ?_ | refine DW.bool ?_ | refine DW.str ?_ | refine DW.arrE rfl ?_ | ((conv => whnf); first | refine And.intro ?_ ?_ | trivial))
    · repeat' (first | exact DWl.eq (congrArg rowL (full_zero n a)) (rowL_all _) | exact congrArg List.length (full_zero n a) | exact full_in0 (by omega) | exact DW.same _ rfl | exact DW.ref _ _ _ rfl | exact DW.arr _ _ _ rfl | exact OW.cells rfl rfl (DWl.same rfl) | refine OW.cells rfl rfl ?_ | refine DWl.cons ?_ ?_ | exact DWl.nil | exact DW.nilArr _ rfl | exact DW.nilLst _ | refine DW.clol ?_ ?_ | refine DW.aggl ?_ | refine DW.tupl ?_ | refine DW.int ?_ | refine DW.bool ?_ | refine DW.str ?_ | refine DW.arrE rfl ?_ | ((conv => whnf); first | refine And.intro ?_ ?_ | trivial))
    intro i hi
    repeat' (first | with_reducible rfl | ((conv => whnf); first | refine And.intro ?_ ?_ | (intro h; first | exact Bool.noConfusion h | with_reducible exact h | (refine not_t h ?_; rfl) | (refine not_f h ?_; rfl) | (refine bt1 h ?_; with_reducible assumption) | (refine bt2 h ?_; with_reducible assumption) | (have ht : true = true := h; clear ht h) | skip) | ((with_reducible refine DWl.mark ?_); repeat' (first | refine DWl.cons ?_ ?_ | exact DWl.nil | exact DW.same _ rfl | exact DW.ref _ _ _ rfl | exact DW.arr _ _ _ rfl | exact DW.sub _ _ _ _ rfl | exact DW.nilLst _ | refine DW.aggl ?_ | refine DW.tupl ?_ | refine DW.clol ?_ ?_ | refine DW.int ?_ | refine DW.bool ?_ | refine DW.str ?_)) | refine dcell_ok rfl ?_ | refine AppC.new ?_))
    all_goals try ((conv => whnf); with_reducible refine Round.mark ?_)
    all_goals try first | ((with_reducible show Option.isSome (slElem _ _) = true); kernel_rfl) | ((with_reducible show slElem _ _ = some _); kernel_rfl) | ((with_reducible refine enters_mark ?_); kernel_rfl) | (with_reducible assumption) | ((with_reducible show List.all _ DV.one = true); rfl) | ((with_reducible show (_ : Nat) = _); rfl) | ((with_reducible show (_ == true) = true); simpa using h) | ((with_reducible show (_ : Nat) ≤ _); exact Nat.le_of_ble_eq_true rfl) | ((with_reducible show (_ : Int) ≤ _); first | omega | decide) | ((with_reducible show (_ : Int) < _); first | omega | decide) | ((with_reducible show (_ : Nat) < _); omega) | ((with_reducible show (_ : Nat) ≤ _); omega)
    · show (fullI n a i).length * 2 ≤ (rowL (fullI n a i)).length
      rw [rowL_len]; exact Nat.le_refl _
    · have := fullI_len n a i hn.2
      show ((fullI n a i).length + 1) * 16 ≤ _
      omega
    · have := fullI_len n a i hn.2
      simp only [maxLen]; omega
    · rename_i e1
      have hin : a + 1 + i < n := by have := of_decide_eq_true e1; omega
      refine Round.go (· + 1) (by omega) (by show n - (i + 1) < n - i; omega) (Weak.list [(2, some 4)] [] (by kernel_rfl) ?_ ?_)
      · repeat' (first | exact wadd1 (by omega) (by omega) | exact DWl.eq full_row (rowL_all _) | exact full_len1 n a i | exact DW.same _ rfl | exact DW.ref _ _ _ rfl | exact DW.arr _ _ _ rfl | exact OW.cells rfl rfl (DWl.same rfl) | refine OW.cells rfl rfl ?_ | refine DWl.cons ?_ ?_ | exact DWl.nil | exact DW.nilArr _ rfl | exact DW.nilLst _ | refine DW.clol ?_ ?_ | refine DW.aggl ?_ | refine DW.tupl ?_ | refine DW.int ?_ | refine DW.bool ?_ | refine DW.str ?_ | refine DW.arrE rfl ?_ | ((conv => whnf); first | refine And.intro ?_ ?_ | trivial))
      · repeat' (first | exact wadd1 (by omega) (by omega) | exact DWl.eq full_row (rowL_all _) | exact full_len1 n a i | exact DW.same _ rfl | exact DW.ref _ _ _ rfl | exact DW.arr _ _ _ rfl | exact OW.cells rfl rfl (DWl.same rfl) | refine OW.cells rfl rfl ?_ | refine DWl.cons ?_ ?_ | exact DWl.nil | exact DW.nilArr _ rfl | exact DW.nilLst _ | refine DW.clol ?_ ?_ | refine DW.aggl ?_ | refine DW.tupl ?_ | refine DW.int ?_ | refine DW.bool ?_ | refine DW.str ?_ | refine DW.arrE rfl ?_ | ((conv => whnf); first | refine And.intro ?_ ?_ | trivial))
    · have hin : i = n - 1 - a := by have := of_decide_eq_false h; omega
      subst hin
      refine Round.go (· + 1) han (by show n - (a + 1) < n - a; omega) (Weak.list [(2, some 2)] [] (by kernel_rfl) ?_ ?_)
      · repeat' (first | exact wsucc han (by omega) | exact DWl.eq (congrArg rowL (full_next n a)) (rowL_all _) | exact congrArg List.length (full_next n a) | exact DW.same _ rfl | exact DW.ref _ _ _ rfl | exact DW.arr _ _ _ rfl | exact OW.cells rfl rfl (DWl.same rfl) | refine OW.cells rfl rfl ?_ | refine DWl.cons ?_ ?_ | exact DWl.nil | exact DW.nilArr _ rfl | exact DW.nilLst _ | refine DW.clol ?_ ?_ | refine DW.aggl ?_ | refine DW.tupl ?_ | refine DW.int ?_ | refine DW.bool ?_ | refine DW.str ?_ | refine DW.arrE rfl ?_ | ((conv => whnf); first | refine And.intro ?_ ?_ | trivial))
      · repeat' (first | exact wsucc han (by omega) | exact DWl.eq (congrArg rowL (full_next n a)) (rowL_all _) | exact congrArg List.length (full_next n a) | exact DW.same _ rfl | exact DW.ref _ _ _ rfl | exact DW.arr _ _ _ rfl | exact OW.cells rfl rfl (DWl.same rfl) | refine OW.cells rfl rfl ?_ | refine DWl.cons ?_ ?_ | exact DWl.nil | exact DW.nilArr _ rfl | exact DW.nilLst _ | refine DW.clol ?_ ?_ | refine DW.aggl ?_ | refine DW.tupl ?_ | refine DW.int ?_ | refine DW.bool ?_ | refine DW.str ?_ | refine DW.arrE rfl ?_ | ((conv => whnf); first | refine And.intro ?_ ?_ | trivial))
  · have : n = a := by have := ge_int h; omega
    subst this
    conv => whnf
    refine Tri.loop (stDeg n L) (preDeg n L) (fun v => n - v) 0 (by kernel_rfl) (Weak.list [(0, some 0), (1, some 2)] [] (by kernel_rfl) ?_ ?_) ⟨Nat.zero_le _, fun u hu => absurd hu (Nat.not_lt_zero _)⟩ ?_
    · repeat' (first | exact DWl.eq (congrArg rowL hL) (rowL_all _) | exact hlen.symm | exact DW.same _ rfl | exact DW.ref _ _ _ rfl | exact DW.arr _ _ _ rfl | exact OW.cells rfl rfl (DWl.same rfl) | refine OW.cells rfl rfl ?_ | refine DWl.cons ?_ ?_ | exact DWl.nil | exact DW.nilArr _ rfl | exact DW.nilLst _ | refine DW.clol ?_ ?_ | refine DW.aggl ?_ | refine DW.tupl ?_ | refine DW.int ?_ | refine DW.bool ?_ | refine DW.str ?_ | refine DW.arrE rfl ?_ | ((conv => whnf); first | refine And.intro ?_ ?_ | trivial))
    · repeat' (first | exact DWl.eq (congrArg rowL hL) (rowL_all _) | exact hlen.symm | exact DW.same _ rfl | exact DW.ref _ _ _ rfl | exact DW.arr _ _ _ rfl | exact OW.cells rfl rfl (DWl.same rfl) | refine OW.cells rfl rfl ?_ | refine DWl.cons ?_ ?_ | exact DWl.nil | exact DW.nilArr _ rfl | exact DW.nilLst _ | refine DW.clol ?_ ?_ | refine DW.aggl ?_ | refine DW.tupl ?_ | refine DW.int ?_ | refine DW.bool ?_ | refine DW.str ?_ | refine DW.arrE rfl ?_ | ((conv => whnf); first | refine And.intro ?_ ?_ | trivial))
    intro v hv
    repeat' (first | with_reducible rfl | ((conv => whnf); first | refine And.intro ?_ ?_ | (intro h; first | exact Bool.noConfusion h | with_reducible exact h | (refine bt1 h ?_; with_reducible assumption) | (refine bt2 h ?_; with_reducible assumption) | (have ht : true = true := h; clear ht h) | skip) | ((with_reducible refine DWl.mark ?_); repeat' (first | refine DWl.cons ?_ ?_ | exact DWl.nil | exact DW.same _ rfl | exact DW.ref _ _ _ rfl | exact DW.arr _ _ _ rfl | exact DW.sub _ _ _ _ rfl | exact DW.nilLst _ | refine DW.aggl ?_ | refine DW.tupl ?_ | refine DW.clol ?_ ?_ | exact DW.pubM rfl rfl rfl rfl (linksRow L) (rowL_eq L) | refine DW.int ?_ | refine DW.bool ?_ | refine DW.str ?_)) | ((with_reducible refine SCall.mark ?_); first | (refine SCall.scalT (deg22_D L v) ?dwq rfl ?_; case dwq => (repeat' (first | refine DWl.cons ?_ ?_ | exact DWl.nil | exact DW.same _ rfl | exact DW.ref _ _ _ rfl | exact DW.arr _ _ _ rfl | exact DW.sub _ _ _ _ rfl | exact DW.nilLst _ | refine DW.aggl ?_ | refine DW.tupl ?_ | refine DW.clol ?_ ?_ | exact DW.pubM rfl rfl rfl rfl (linksRow L) (rowL_eq L) | refine DW.int ?_ | refine DW.bool ?_ | refine DW.str ?_))) | refine sortLinks (l := L) h64 rfl rfl (by omega) ?_) | ((with_reducible refine GCall.mark ?_); first | (refine GCall.scalT (fun _ => deg22_D L v) ?dwq rfl ?_; case dwq => (intro _; repeat' (first | refine DWl.cons ?_ ?_ | exact DWl.nil | exact DW.same _ rfl | exact DW.ref _ _ _ rfl | exact DW.arr _ _ _ rfl | exact DW.sub _ _ _ _ rfl | exact DW.nilLst _ | refine DW.aggl ?_ | refine DW.tupl ?_ | refine DW.clol ?_ ?_ | exact DW.pubM rfl rfl rfl rfl (linksRow L) (rowL_eq L) | refine DW.int ?_ | refine DW.bool ?_ | refine DW.str ?_)))) | refine dcell_ok rfl ?_ | refine AppC.new ?_))
    all_goals try ((conv => whnf); with_reducible refine Round.mark ?_)
    all_goals try first | ((with_reducible show Option.isSome (slElem _ _) = true); kernel_rfl) | ((with_reducible show slElem _ _ = some _); kernel_rfl) | ((with_reducible refine enters_mark ?_); kernel_rfl) | (with_reducible assumption) | ((with_reducible show List.all _ DV.one = true); rfl) | ((with_reducible show (_ : Nat) = _); rfl) | ((with_reducible show (_ == true) = true); simpa using h) | ((with_reducible show (_ : Nat) ≤ _); exact Nat.le_of_ble_eq_true rfl) | ((with_reducible show (_ : Int) ≤ _); first | omega | decide) | ((with_reducible show (_ : Int) < _); first | omega | decide) | ((with_reducible show (_ : Nat) < _); omega) | ((with_reducible show (_ : Nat) ≤ _); omega)
    · rename_i e3
      conv => whnf
      exact Tells.of (r1 := .tup [links [], int1 43]) (by rw [linksR_no (lt_int e3) (by have := of_decide_eq_true h; omega)]) (Tells.mk (DW.tupl (DWl.cons (DW.nilLst _) (DWl.cons (DW.same _ rfl) DWl.nil))))
    · rename_i e3
      have hvn := lt_int e3
      refine Round.go (· + 1) ⟨hvn, fun u hu => ?_⟩ (by show n - (v + 1) < n - v; omega) (Weak.list [(0, some 0), (1, some 1)] [] (by kernel_rfl) ?_ ?_)
      · rcases Nat.lt_succ_iff_lt_or_eq.1 hu with h5 | h5
        · exact hv.2 u h5
        · subst h5; have := of_decide_eq_false h; omega
      · repeat' (first | exact wsucc hvn (by omega) | exact DWl.eq rfl (rowL_all _) | exact DW.same _ rfl | exact DW.ref _ _ _ rfl | exact DW.arr _ _ _ rfl | exact OW.cells rfl rfl (DWl.same rfl) | refine OW.cells rfl rfl ?_ | refine DWl.cons ?_ ?_ | exact DWl.nil | exact DW.nilArr _ rfl | exact DW.nilLst _ | refine DW.clol ?_ ?_ | refine DW.aggl ?_ | refine DW.tupl ?_ | refine DW.int ?_ | refine DW.bool ?_ | refine DW.str ?_ | refine DW.arrE rfl ?_ | ((conv => whnf); first | refine And.intro ?_ ?_ | trivial))
      · repeat' (first | exact wsucc hvn (by omega) | exact DWl.eq rfl (rowL_all _) | exact DW.same _ rfl | exact DW.ref _ _ _ rfl | exact DW.arr _ _ _ rfl | exact OW.cells rfl rfl (DWl.same rfl) | refine OW.cells rfl rfl ?_ | refine DWl.cons ?_ ?_ | exact DWl.nil | exact DW.nilArr _ rfl | exact DW.nilLst _ | refine DW.clol ?_ ?_ | refine DW.aggl ?_ | refine DW.tupl ?_ | refine DW.int ?_ | refine DW.bool ?_ | refine DW.str ?_ | refine DW.arrE rfl ?_ | ((conv => whnf); first | refine And.intro ?_ ?_ | trivial))
    · have hvn : v = n := by have := ge_int h; have := hv.1; omega
      conv => whnf
      exact Tells.of (r1 := .tup [links (sortL L), int1 0]) (by rw [linksR_ok (by rw [← hvn]; exact hv.2)]) (Tells.mk (DW.tupl (DWl.cons (DW.pubM rfl (sortL_len L) rfl rfl (linksRow _) (rowL_eq _)) (DWl.cons (DW.same _ rfl) DWl.nil))))
end Go.Proofs.Ytphgcgggbbcjgaa

/- Links of a grid. -/
namespace Go.Proofs.Ytphgcgggbbcjgaa
open Go.RowKit Go.Dl
attribute [local irreducible] Tri SCall DFun QSem PCall GCall MCall Round Weak dloadE OW DWl Tells Retold ESem

def gridA (n : Nat) (k : Int) (i : Nat) : List Lk := if (i : Int) + 1 < n ∧ ((i : Int) + 1) % k ≠ 0 then [((i : Int), (i : Int) + 1)] else []
def gridB (n : Nat) (k : Int) (i : Nat) : List Lk := if k < (n : Int) - i then [((i : Int), (i : Int) + k)] else []
def gridP (n : Nat) (k : Int) (i : Nat) : List Lk := (List.range i).flatMap fun i => gridA n k i ++ gridB n k i
theorem grid_next (n : Nat) (k : Int) (i : Nat) : gridP n k (i + 1) = gridP n k i ++ (gridA n k i ++ gridB n k i) := by simp [gridP, List.range_succ]
theorem grid_rowz (n : Nat) (k : Int) : rowL (gridP n k 0) = [] := rfl
theorem grid_len0 (n : Nat) (k : Int) : (gridP n k 0).length = 0 := rfl
theorem gridA_len (n : Nat) (k : Int) (i : Nat) : (gridA n k i).length ≤ 1 := by unfold gridA; split <;> simp
theorem gridB_len (n : Nat) (k : Int) (i : Nat) : (gridB n k i).length ≤ 1 := by unfold gridB; split <;> simp
theorem gridP_len (n : Nat) (k : Int) (i : Nat) : (gridP n k i).length ≤ 2 * i := by
  induction i with
  | zero => simp [gridP]
  | succ i ih =>
    have h1 := gridA_len n k i
    have h2 := gridB_len n k i
    rw [grid_next, List.length_append, List.length_append]; omega
theorem grid_in64 {n : Nat} {k : Int} (hk : 1 ≤ k) (hn : n ≤ 16) : in64 (gridP n k n) := fun x hx => by
  obtain ⟨i, hi, h⟩ := List.mem_flatMap.1 hx
  rw [List.mem_range] at hi
  rcases List.mem_append.1 h with h | h
  · unfold gridA at h
    split at h
    · rw [List.mem_singleton] at h; subst h; simp only; omega
    · cases h
  · unfold gridB at h
    split at h
    · rw [List.mem_singleton] at h; subst h; simp only; omega
    · cases h
theorem nt {Q : Prop} (h : (!true) = true) : Q := by cases h
theorem ff {Q : Prop} (h : false = true) : Q := by cases h
theorem tt {Q : Prop} (h : true = false) : Q := by cases h
theorem bx {b : Bool} {Q : Prop} (h : (bif b then !true else false) = true) : Q := by cases b <;> simp at h
theorem tb {b : Bool} (h : (true && b) = true) : (b == true) = true := by cases b <;> simp at h ⊢
theorem gA {n : Nat} {k : Int} {i : Nat} (hi : i < 60) (hk : 1 ≤ k) : (bif decide (IntKind.i64.wrap ((i : Int) + 1) < (n : Int)) then (IntKind.i64.wrap ((i : Int) + 1)).tmod k != 0 else false) = decide ((i : Int) + 1 < n ∧ ((i : Int) + 1) % k ≠ 0) := by
  rw [wrapI (by omega) (by omega), Int.tmod_eq_emod_of_nonneg (by omega)]
  by_cases h : (i : Int) + 1 < n
  · by_cases h2 : ((i : Int) + 1) % k = 0 <;> simp [h, h2]
  · simp [h]
theorem gA1 {n : Nat} {k : Int} {i : Nat} (hi : i < 60) (hk : 1 ≤ k) (h : ((bif decide (IntKind.i64.wrap ((i : Int) + 1) < (n : Int)) then (IntKind.i64.wrap ((i : Int) + 1)).tmod k != 0 else false) == true) = true) : gridA n k i = [((i : Int), (i : Int) + 1)] := by
  rw [gA hi hk] at h
  unfold gridA
  rw [if_pos (by simpa using h)]
theorem gA0 {n : Nat} {k : Int} {i : Nat} (hi : i < 60) (hk : 1 ≤ k) (h : ((bif decide (IntKind.i64.wrap ((i : Int) + 1) < (n : Int)) then (IntKind.i64.wrap ((i : Int) + 1)).tmod k != 0 else false) == true) = false) : gridA n k i = [] := by
  rw [gA hi hk] at h
  unfold gridA
  rw [if_neg (by simpa using h)]
theorem gB1 {n : Nat} {k : Int} {i : Nat} (hi : i < 60) (hn : n < 60) (h : (decide (k < IntKind.i64.wrap ((n : Int) - i)) == true) = true) : gridB n k i = [((i : Int), (i : Int) + k)] ∧ k < 60 := by
  rw [wrapI (by omega) (by omega)] at h
  have h2 : k < (n : Int) - i := by simpa using h
  unfold gridB
  rw [if_pos h2]
  exact ⟨rfl, by omega⟩
theorem gB0 {n : Nat} {k : Int} {i : Nat} (hi : i < 60) (hn : n < 60) (h : decide (k < IntKind.i64.wrap ((n : Int) - i)) = false) : gridB n k i = [] := by
  rw [wrapI (by omega) (by omega)] at h
  have h2 : ¬ k < (n : Int) - i := by simpa using h
  unfold gridB
  rw [if_neg h2]
theorem grid_row2 {P : List Lk} {i a b a' b' : Int} (ha : a' = a) (hb : b' = b) : ((rowL P).take (P.length * 2) ++ [DV.v (.int .i64 i), DV.v (.int .i64 a')]).take ((P.length + 1) * 2) ++ [DV.v (.int .i64 i), DV.v (.int .i64 b')] = rowL (P ++ ([(i, a)] ++ [(i, b)])) := by
  rw [rowL_push rfl, rowL_push (by simp), ha, hb, List.append_assoc]
theorem grid_row1 {P : List Lk} {i a a' : Int} (ha : a' = a) : (rowL P).take (P.length * 2) ++ [DV.v (.int .i64 i), DV.v (.int .i64 a')] = rowL (P ++ [(i, a)]) := by
  rw [rowL_push rfl, ha]
theorem grid_b1 {P : List Lk} {i n : Nat} (h : P.length ≤ 2 * i) (hi : i ≤ n) (hn : n ≤ 16) : (P.length + 1) * Try.prog.types[44].bytes ≤ 140737488355328 := by
  show (P.length + 1) * 16 ≤ _
  omega
theorem grid_b2 {P : List Lk} {i n : Nat} (h : P.length ≤ 2 * i) (hi : i ≤ n) (hn : n ≤ 16) : P.length + 1 ≤ maxLen := by simp only [maxLen]; omega
theorem grid_b4 {P : List Lk} {i n : Nat} (h : P.length ≤ 2 * i) (hi : i ≤ n) (hn : n ≤ 16) : (P.length + 1 + 1) * Try.prog.types[44].bytes ≤ 140737488355328 := by
  show (P.length + 1 + 1) * 16 ≤ _
  omega
theorem grid_b5 {P : List Lk} {i n : Nat} (h : P.length ≤ 2 * i) (hi : i ≤ n) (hn : n ≤ 16) : P.length + 1 + 1 ≤ maxLen := by simp only [maxLen]; omega
theorem grid_b3 {P : List Lk} {a b : DV} : (P.length + 1) * 2 ≤ ((rowL P).take (P.length * 2) ++ [a, b]).length := by
  rw [List.length_append, List.length_take, rowL_len]; simp; omega
theorem grid_l2 {P P' : List Lk} {x y : Lk} (h : P' = P ++ ([x] ++ [y])) : P.length + 1 + 1 = P'.length := by rw [h]; simp
theorem grid_l1 {P P' : List Lk} {x : Lk} (h : P' = P ++ [x]) : P.length + 1 = P'.length := by rw [h]; simp
def stgrid (n : Nat) (k : Int) (lb i : Nat) : St := ⟨⟨3, [.normal]⟩, tmOf [(0, .clo (.yield lb) [] []), (1, .ref 1 0), (2, .ref 2 0), (5, int1 n), (6, int1 i)], .of [(0, ⟨23, 1, [.arr 3 (gridP n k i).length]⟩), (1, ⟨3, 1, [int1 n]⟩), (2, ⟨3, 1, [int1 k]⟩), (3, ⟨44, 2, rowL (gridP n k i)⟩)] 4⟩
attribute [local irreducible] rowL preL degT sortL gridP IntKind.wrap
set_option maxRecDepth 100000 in
set_option maxHeartbeats 1000000 in
theorem grid_D (n : Nat) (hn : 1 ≤ n ∧ n ≤ 16) (k : Int) (hk : 1 ≤ k) : DPure Try.prog 8 [int1 5, int1 n, int1 k] (.tup [links (linksR n (gridP n k n)).1, int1 (linksR n (gridP n k n)).2]) := by
  generalize hL : gridP n k n = L
  have hlen : L.length = (gridP n k n).length := by rw [← hL]
  have hll : L.length ≤ 2 * 16 := by rw [← hL]; have := gridP_len n k n; omega
  have h64 : in64 L := by rw [← hL]; exact grid_in64 hk hn.2
  refine DFun.data (DFun.body Try.func8 rfl (by kernel_rfl) ?_)
  repeat' (first | with_reducible rfl | ((conv => whnf); first | refine And.intro ?_ ?_ | (intro h; first | exact Bool.noConfusion h | with_reducible exact h | (refine not_t h ?_; rfl) | (refine not_f h ?_; rfl) | (exfalso; simp at h; omega) | (have ht : true = true := h; clear ht h) | skip) | ((with_reducible refine DWl.mark ?_); repeat' (first | refine DWl.cons ?_ ?_ | exact DWl.nil | exact DW.same _ rfl | exact DW.ref _ _ _ rfl | exact DW.arr _ _ _ rfl | exact DW.sub _ _ _ _ rfl | exact DW.nilLst _ | refine DW.aggl ?_ | refine DW.tupl ?_ | refine DW.clol ?_ ?_ | refine DW.int ?_ | refine DW.bool ?_ | refine DW.str ?_)) | ((with_reducible refine SCall.mark ?_); first | refine SCall.data (shapes_D) rfl rfl ?_ | refine SCall.run Try.func40 rfl (Nat.le_of_ble_eq_true rfl) (by kernel_rfl) ?_) | ((with_reducible refine GCall.mark ?_); first | refine GCall.data (fun _ => shapes_D) rfl rfl ?_) | ((with_reducible refine MCall.mark ?_); first | refine MCall.data (fun _ => shapes_D) rfl rfl ?_) | ((with_reducible refine ex_mark ?_); first | refine dq_look 40 4 rfl rfl rfl ?_) | refine dcell_ok rfl ?_ | refine AppC.new ?_))
  all_goals first | (with_reducible refine enters_mark ?_; kernel_rfl) | (with_reducible refine boolT_mark ?_; kernel_rfl) | rfl | trivial | assumption | exact Nat.le_of_ble_eq_true rfl | (show entersB _ _ = true; kernel_rfl) | exact DW.same _ rfl | exact DW.ref _ _ _ rfl | exact DW.arr _ _ _ rfl | refine DW.int ?_ | refine dvb ?_ | refine dvi ?_ | exact OW.cells rfl rfl (DWl.same rfl) | exact Nat.zero_le _ | omega | skip
  all_goals repeat' (first | refine OW.cells rfl rfl ?_ | exact DW.nilArr _ rfl | refine DWl.cons ?_ ?_ | exact DWl.nil | exact DW.same _ rfl | exact DW.ref _ _ _ rfl | exact DW.arr _ _ _ rfl | exact DW.sub _ _ _ _ rfl | exact DW.nilLst _ | refine DW.aggl ?_ | refine DW.tupl ?_ | refine DW.clol ?_ ?_)
  all_goals try ((conv => whnf); with_reducible first | refine Round.mark ?_ | refine Tells.mark ?_ | refine Retold.mark ?_)
  all_goals try first | (show (_ : Bool) = _; simp_all; done) | (show (_ : Int) < _; simp at *; omega) | (show (_ : Int) ≤ _; simp at *; omega) | (show (_ : Nat) < _; simp at *; omega) | (show (_ : Nat) ≤ _; simp at *; omega)
  conv => whnf
  refine Tri.range rfl (by kernel_rfl) rfl rfl (by rfl) (by kernel_rfl) fun lb => ?_
  repeat' (first | with_reducible rfl | ((conv => whnf); first | refine And.intro ?_ ?_ | (intro h; first | exact Bool.noConfusion h | with_reducible exact h | (refine not_t h ?_; rfl) | (refine not_f h ?_; rfl) | (refine bt1 h ?_; with_reducible assumption) | (refine bt2 h ?_; with_reducible assumption) | (have ht : true = true := h; clear ht h) | skip) | ((with_reducible refine DWl.mark ?_); repeat' (first | refine DWl.cons ?_ ?_ | exact DWl.nil | exact DW.same _ rfl | exact DW.ref _ _ _ rfl | exact DW.arr _ _ _ rfl | exact DW.sub _ _ _ _ rfl | exact DW.nilLst _ | refine DW.aggl ?_ | refine DW.tupl ?_ | refine DW.clol ?_ ?_ | refine DW.int ?_ | refine DW.bool ?_ | refine DW.str ?_)) | refine dcell_ok rfl ?_ | refine AppC.new ?_))
  all_goals first | (with_reducible refine enters_mark ?_; kernel_rfl) | (with_reducible refine boolT_mark ?_; kernel_rfl) | rfl | trivial | assumption | exact Nat.le_of_ble_eq_true rfl | (show entersB _ _ = true; kernel_rfl) | exact DW.same _ rfl | exact DW.ref _ _ _ rfl | exact DW.arr _ _ _ rfl | refine DW.int ?_ | refine dvb ?_ | refine dvi ?_ | exact OW.cells rfl rfl (DWl.same rfl) | exact Nat.zero_le _ | omega | skip
  all_goals repeat' (first | refine OW.cells rfl rfl ?_ | exact DW.nilArr _ rfl | refine DWl.cons ?_ ?_ | exact DWl.nil | exact DW.same _ rfl | exact DW.ref _ _ _ rfl | exact DW.arr _ _ _ rfl | exact DW.sub _ _ _ _ rfl | exact DW.nilLst _ | refine DW.aggl ?_ | refine DW.tupl ?_ | refine DW.clol ?_ ?_)
  all_goals try ((conv => whnf); with_reducible first | refine Round.mark ?_ | refine Tells.mark ?_ | refine Retold.mark ?_)
  all_goals try first | (show (_ : Bool) = _; simp_all; done) | (show (_ : Int) < _; simp at *; omega) | (show (_ : Int) ≤ _; simp at *; omega) | (show (_ : Nat) < _; simp at *; omega) | (show (_ : Nat) ≤ _; simp at *; omega)
  conv => whnf
  refine Tri.loop (stgrid n k lb) (· ≤ n) (fun a => n - a) 0 (by kernel_rfl) (Weak.list [(3, none)] [] (by kernel_rfl) ?_ ?_) (Nat.zero_le _) ?_
  · repeat' (first | exact grid_rowz _ _ | exact DW.nilArrE rfl (grid_len0 n k) | exact DW.same _ rfl | exact DW.ref _ _ _ rfl | exact DW.arr _ _ _ rfl | exact OW.cells rfl rfl (DWl.same rfl) | refine OW.cells rfl rfl ?_ | refine DWl.cons ?_ ?_ | exact DWl.nil | exact DW.nilArr _ rfl | exact DW.nilLst _ | refine DW.clol ?_ ?_ | refine DW.aggl ?_ | refine DW.tupl ?_ | refine DW.int ?_ | refine DW.bool ?_ | refine DW.str ?_ | refine DW.arrE rfl ?_ | ((conv => whnf); first | refine And.intro ?_ ?_ | trivial))
  · repeat' (first | exact grid_rowz _ _ | exact DW.nilArrE rfl (grid_len0 n k) | exact DW.same _ rfl | exact DW.ref _ _ _ rfl | exact DW.arr _ _ _ rfl | exact OW.cells rfl rfl (DWl.same rfl) | refine OW.cells rfl rfl ?_ | refine DWl.cons ?_ ?_ | exact DWl.nil | exact DW.nilArr _ rfl | exact DW.nilLst _ | refine DW.clol ?_ ?_ | refine DW.aggl ?_ | refine DW.tupl ?_ | refine DW.int ?_ | refine DW.bool ?_ | refine DW.str ?_ | refine DW.arrE rfl ?_ | ((conv => whnf); first | refine And.intro ?_ ?_ | trivial))
  intro i hi
  repeat' (first | with_reducible rfl | ((conv => whnf); first | refine And.intro ?_ ?_ | (intro h; first | exact Bool.noConfusion h | with_reducible exact h | (with_reducible exact nt h) | (with_reducible exact ff h) | (with_reducible exact tt h) | (with_reducible exact bx h) | (refine bt1 h ?_; with_reducible assumption) | (refine bt2 h ?_; with_reducible assumption) | (have ht : true = true := h; clear ht h) | skip) | ((with_reducible refine DWl.mark ?_); repeat' (first | refine DWl.cons ?_ ?_ | exact DWl.nil | exact DW.same _ rfl | exact DW.ref _ _ _ rfl | exact DW.arr _ _ _ rfl | exact DW.sub _ _ _ _ rfl | exact DW.nilLst _ | refine DW.aggl ?_ | refine DW.tupl ?_ | refine DW.clol ?_ ?_ | refine DW.int ?_ | refine DW.bool ?_ | refine DW.str ?_)) | refine dcell_ok rfl ?_ | refine AppC.new ?_))
  all_goals try ((conv => whnf); with_reducible refine Round.mark ?_)
  all_goals try first | ((with_reducible show (_ == true) = true); with_reducible exact tb h) | ((with_reducible show Option.isSome (slElem _ _) = true); kernel_rfl) | ((with_reducible show slElem _ _ = some _); kernel_rfl) | ((with_reducible refine enters_mark ?_); kernel_rfl) | (with_reducible assumption) | ((with_reducible show List.all _ DV.one = true); rfl) | ((with_reducible show (_ : Nat) = _); rfl) | ((with_reducible show (_ == true) = true); simpa using h) | ((with_reducible show (_ : Nat) ≤ _); exact Nat.le_of_ble_eq_true rfl) | ((with_reducible show (_ : Int) ≤ _); first | omega | decide) | ((with_reducible show (_ : Int) < _); first | omega | decide)
  · exact absurd h (by omega)
  · show (gridP n k i).length * 2 ≤ (rowL (gridP n k i)).length
    rw [rowL_len]; exact Nat.le_refl _
  · exact grid_b1 (gridP_len n k i) hi hn.2
  · exact grid_b2 (gridP_len n k i) hi hn.2
  · exact grid_b3
  · exact grid_b4 (gridP_len n k i) hi hn.2
  · exact grid_b5 (gridP_len n k i) hi hn.2
  · have hin := lt_int ‹decide ((i : Int) < (n : Int)) = true›
    have e1 := gA1 (n := n) (k := k) (i := i) (by omega) hk (by with_reducible assumption)
    have e23 := gB1 (n := n) (k := k) (i := i) (by omega) (by omega) (by with_reducible assumption)
    have e2 := e23.1
    have e3 := e23.2
    have e4 : gridP n k (i + 1) = gridP n k i ++ ([((i : Int), (i : Int) + 1)] ++ [((i : Int), (i : Int) + k)]) := by rw [grid_next, e1, e2]
    refine Round.go (· + 1) (by omega) (by show n - (i + 1) < n - i; omega) (Weak.list [(3, some 7)] [] (by kernel_rfl) ?_ ?_)
    · repeat' (first | exact wsucc hin (by omega) | exact DWl.eq ((grid_row2 (wrapI (by omega) (by omega)) (wrapI (by omega) (by omega))).trans (congrArg rowL e4.symm)) (rowL_all _) | exact grid_l2 e4 | exact DW.same _ rfl | exact DW.ref _ _ _ rfl | exact DW.arr _ _ _ rfl | exact OW.cells rfl rfl (DWl.same rfl) | refine OW.cells rfl rfl ?_ | refine DWl.cons ?_ ?_ | exact DWl.nil | exact DW.nilArr _ rfl | exact DW.nilLst _ | refine DW.clol ?_ ?_ | refine DW.aggl ?_ | refine DW.tupl ?_ | refine DW.int ?_ | refine DW.bool ?_ | refine DW.str ?_ | refine DW.arrE rfl ?_ | ((conv => whnf); first | refine And.intro ?_ ?_ | trivial))
    · repeat' (first | exact wsucc hin (by omega) | exact DWl.eq ((grid_row2 (wrapI (by omega) (by omega)) (wrapI (by omega) (by omega))).trans (congrArg rowL e4.symm)) (rowL_all _) | exact grid_l2 e4 | exact DW.same _ rfl | exact DW.ref _ _ _ rfl | exact DW.arr _ _ _ rfl | exact OW.cells rfl rfl (DWl.same rfl) | refine OW.cells rfl rfl ?_ | refine DWl.cons ?_ ?_ | exact DWl.nil | exact DW.nilArr _ rfl | exact DW.nilLst _ | refine DW.clol ?_ ?_ | refine DW.aggl ?_ | refine DW.tupl ?_ | refine DW.int ?_ | refine DW.bool ?_ | refine DW.str ?_ | refine DW.arrE rfl ?_ | ((conv => whnf); first | refine And.intro ?_ ?_ | trivial))
  · have hin := lt_int ‹decide ((i : Int) < (n : Int)) = true›
    have e1 := gA1 (n := n) (k := k) (i := i) (by omega) hk (by with_reducible assumption)
    have e2 := gB0 (n := n) (k := k) (i := i) (by omega) (by omega) (by with_reducible assumption)
    have e4 : gridP n k (i + 1) = gridP n k i ++ [((i : Int), (i : Int) + 1)] := by rw [grid_next, e1, e2]; rfl
    refine Round.go (· + 1) (by omega) (by show n - (i + 1) < n - i; omega) (Weak.list [(3, some 5)] [] (by kernel_rfl) ?_ ?_)
    · repeat' (first | exact wsucc hin (by omega) | exact DWl.eq ((grid_row1 (wrapI (by omega) (by omega))).trans (congrArg rowL e4.symm)) (rowL_all _) | exact grid_l1 e4 | exact DW.same _ rfl | exact DW.ref _ _ _ rfl | exact DW.arr _ _ _ rfl | exact OW.cells rfl rfl (DWl.same rfl) | refine OW.cells rfl rfl ?_ | refine DWl.cons ?_ ?_ | exact DWl.nil | exact DW.nilArr _ rfl | exact DW.nilLst _ | refine DW.clol ?_ ?_ | refine DW.aggl ?_ | refine DW.tupl ?_ | refine DW.int ?_ | refine DW.bool ?_ | refine DW.str ?_ | refine DW.arrE rfl ?_ | ((conv => whnf); first | refine And.intro ?_ ?_ | trivial))
    · repeat' (first | exact wsucc hin (by omega) | exact DWl.eq ((grid_row1 (wrapI (by omega) (by omega))).trans (congrArg rowL e4.symm)) (rowL_all _) | exact grid_l1 e4 | exact DW.same _ rfl | exact DW.ref _ _ _ rfl | exact DW.arr _ _ _ rfl | exact OW.cells rfl rfl (DWl.same rfl) | refine OW.cells rfl rfl ?_ | refine DWl.cons ?_ ?_ | exact DWl.nil | exact DW.nilArr _ rfl | exact DW.nilLst _ | refine DW.clol ?_ ?_ | refine DW.aggl ?_ | refine DW.tupl ?_ | refine DW.int ?_ | refine DW.bool ?_ | refine DW.str ?_ | refine DW.arrE rfl ?_ | ((conv => whnf); first | refine And.intro ?_ ?_ | trivial))
  · show (gridP n k i).length * 2 ≤ (rowL (gridP n k i)).length
    rw [rowL_len]; exact Nat.le_refl _
  · exact grid_b1 (gridP_len n k i) hi hn.2
  · exact grid_b2 (gridP_len n k i) hi hn.2
  · have hin := lt_int ‹decide ((i : Int) < (n : Int)) = true›
    have e1 := gA0 (n := n) (k := k) (i := i) (by omega) hk (by with_reducible assumption)
    have e23 := gB1 (n := n) (k := k) (i := i) (by omega) (by omega) (by with_reducible assumption)
    have e2 := e23.1
    have e3 := e23.2
    have e4 : gridP n k (i + 1) = gridP n k i ++ [((i : Int), (i : Int) + k)] := by rw [grid_next, e1, e2]; rfl
    refine Round.go (· + 1) (by omega) (by show n - (i + 1) < n - i; omega) (Weak.list [(3, some 5)] [] (by kernel_rfl) ?_ ?_)
    · repeat' (first | exact wsucc hin (by omega) | exact DWl.eq ((grid_row1 (wrapI (by omega) (by omega))).trans (congrArg rowL e4.symm)) (rowL_all _) | exact grid_l1 e4 | exact DW.same _ rfl | exact DW.ref _ _ _ rfl | exact DW.arr _ _ _ rfl | exact OW.cells rfl rfl (DWl.same rfl) | refine OW.cells rfl rfl ?_ | refine DWl.cons ?_ ?_ | exact DWl.nil | exact DW.nilArr _ rfl | exact DW.nilLst _ | refine DW.clol ?_ ?_ | refine DW.aggl ?_ | refine DW.tupl ?_ | refine DW.int ?_ | refine DW.bool ?_ | refine DW.str ?_ | refine DW.arrE rfl ?_ | ((conv => whnf); first | refine And.intro ?_ ?_ | trivial))
    · repeat' (first | exact wsucc hin (by omega) | exact DWl.eq ((grid_row1 (wrapI (by omega) (by omega))).trans (congrArg rowL e4.symm)) (rowL_all _) | exact grid_l1 e4 | exact DW.same _ rfl | exact DW.ref _ _ _ rfl | exact DW.arr _ _ _ rfl | exact OW.cells rfl rfl (DWl.same rfl) | refine OW.cells rfl rfl ?_ | refine DWl.cons ?_ ?_ | exact DWl.nil | exact DW.nilArr _ rfl | exact DW.nilLst _ | refine DW.clol ?_ ?_ | refine DW.aggl ?_ | refine DW.tupl ?_ | refine DW.int ?_ | refine DW.bool ?_ | refine DW.str ?_ | refine DW.arrE rfl ?_ | ((conv => whnf); first | refine And.intro ?_ ?_ | trivial))
  · have hin := lt_int ‹decide ((i : Int) < (n : Int)) = true›
    have e1 := gA0 (n := n) (k := k) (i := i) (by omega) hk (by with_reducible assumption)
    have e2 := gB0 (n := n) (k := k) (i := i) (by omega) (by omega) (by with_reducible assumption)
    have e4 : gridP n k i = gridP n k (i + 1) := by rw [grid_next, e1, e2]; simp
    refine Round.go (· + 1) (by omega) (by show n - (i + 1) < n - i; omega) (Weak.list [(3, some 3)] [] (by kernel_rfl) ?_ ?_)
    · repeat' (first | exact wsucc hin (by omega) | exact DWl.eq (congrArg rowL e4) (rowL_all _) | exact congrArg List.length e4 | exact DW.same _ rfl | exact DW.ref _ _ _ rfl | exact DW.arr _ _ _ rfl | exact OW.cells rfl rfl (DWl.same rfl) | refine OW.cells rfl rfl ?_ | refine DWl.cons ?_ ?_ | exact DWl.nil | exact DW.nilArr _ rfl | exact DW.nilLst _ | refine DW.clol ?_ ?_ | refine DW.aggl ?_ | refine DW.tupl ?_ | refine DW.int ?_ | refine DW.bool ?_ | refine DW.str ?_ | refine DW.arrE rfl ?_ | ((conv => whnf); first | refine And.intro ?_ ?_ | trivial))
    · repeat' (first | exact wsucc hin (by omega) | exact DWl.eq (congrArg rowL e4) (rowL_all _) | exact congrArg List.length e4 | exact DW.same _ rfl | exact DW.ref _ _ _ rfl | exact DW.arr _ _ _ rfl | exact OW.cells rfl rfl (DWl.same rfl) | refine OW.cells rfl rfl ?_ | refine DWl.cons ?_ ?_ | exact DWl.nil | exact DW.nilArr _ rfl | exact DW.nilLst _ | refine DW.clol ?_ ?_ | refine DW.aggl ?_ | refine DW.tupl ?_ | refine DW.int ?_ | refine DW.bool ?_ | refine DW.str ?_ | refine DW.arrE rfl ?_ | ((conv => whnf); first | refine And.intro ?_ ?_ | trivial))
  · have : n = i := by have := ge_int h; omega
    subst this
    conv => whnf
    refine Tri.loop (stDeg n L) (preDeg n L) (fun v => n - v) 0 (by kernel_rfl) (Weak.list [(0, some 0), (1, some 3)] [] (by kernel_rfl) ?_ ?_) ⟨Nat.zero_le _, fun u hu => absurd hu (Nat.not_lt_zero _)⟩ ?_
    · repeat' (first | exact DWl.eq (congrArg rowL hL) (rowL_all _) | exact hlen.symm | exact DW.same _ rfl | exact DW.ref _ _ _ rfl | exact DW.arr _ _ _ rfl | exact OW.cells rfl rfl (DWl.same rfl) | refine OW.cells rfl rfl ?_ | refine DWl.cons ?_ ?_ | exact DWl.nil | exact DW.nilArr _ rfl | exact DW.nilLst _ | refine DW.clol ?_ ?_ | refine DW.aggl ?_ | refine DW.tupl ?_ | refine DW.int ?_ | refine DW.bool ?_ | refine DW.str ?_ | refine DW.arrE rfl ?_ | ((conv => whnf); first | refine And.intro ?_ ?_ | trivial))
    · repeat' (first | exact DWl.eq (congrArg rowL hL) (rowL_all _) | exact hlen.symm | exact DW.same _ rfl | exact DW.ref _ _ _ rfl | exact DW.arr _ _ _ rfl | exact OW.cells rfl rfl (DWl.same rfl) | refine OW.cells rfl rfl ?_ | refine DWl.cons ?_ ?_ | exact DWl.nil | exact DW.nilArr _ rfl | exact DW.nilLst _ | refine DW.clol ?_ ?_ | refine DW.aggl ?_ | refine DW.tupl ?_ | refine DW.int ?_ | refine DW.bool ?_ | refine DW.str ?_ | refine DW.arrE rfl ?_ | ((conv => whnf); first | refine And.intro ?_ ?_ | trivial))
    intro v hv
    repeat' (first | with_reducible rfl | ((conv => whnf); first | refine And.intro ?_ ?_ | (intro h; first | exact Bool.noConfusion h | with_reducible exact h | (refine bt1 h ?_; with_reducible assumption) | (refine bt2 h ?_; with_reducible assumption) | (have ht : true = true := h; clear ht h) | skip) | ((with_reducible refine DWl.mark ?_); repeat' (first | refine DWl.cons ?_ ?_ | exact DWl.nil | exact DW.same _ rfl | exact DW.ref _ _ _ rfl | exact DW.arr _ _ _ rfl | exact DW.sub _ _ _ _ rfl | exact DW.nilLst _ | refine DW.aggl ?_ | refine DW.tupl ?_ | refine DW.clol ?_ ?_ | exact DW.pubM rfl rfl rfl rfl (linksRow L) (rowL_eq L) | refine DW.int ?_ | refine DW.bool ?_ | refine DW.str ?_)) | ((with_reducible refine SCall.mark ?_); first | (refine SCall.scalT (deg22_D L v) ?dwq rfl ?_; case dwq => (repeat' (first | refine DWl.cons ?_ ?_ | exact DWl.nil | exact DW.same _ rfl | exact DW.ref _ _ _ rfl | exact DW.arr _ _ _ rfl | exact DW.sub _ _ _ _ rfl | exact DW.nilLst _ | refine DW.aggl ?_ | refine DW.tupl ?_ | refine DW.clol ?_ ?_ | exact DW.pubM rfl rfl rfl rfl (linksRow L) (rowL_eq L) | refine DW.int ?_ | refine DW.bool ?_ | refine DW.str ?_))) | refine sortLinks (l := L) h64 rfl rfl (by omega) ?_) | ((with_reducible refine GCall.mark ?_); first | (refine GCall.scalT (fun _ => deg22_D L v) ?dwq rfl ?_; case dwq => (intro _; repeat' (first | refine DWl.cons ?_ ?_ | exact DWl.nil | exact DW.same _ rfl | exact DW.ref _ _ _ rfl | exact DW.arr _ _ _ rfl | exact DW.sub _ _ _ _ rfl | exact DW.nilLst _ | refine DW.aggl ?_ | refine DW.tupl ?_ | refine DW.clol ?_ ?_ | exact DW.pubM rfl rfl rfl rfl (linksRow L) (rowL_eq L) | refine DW.int ?_ | refine DW.bool ?_ | refine DW.str ?_)))) | refine dcell_ok rfl ?_ | refine AppC.new ?_))
    all_goals try ((conv => whnf); with_reducible refine Round.mark ?_)
    all_goals try first | ((with_reducible show Option.isSome (slElem _ _) = true); kernel_rfl) | ((with_reducible show slElem _ _ = some _); kernel_rfl) | ((with_reducible refine enters_mark ?_); kernel_rfl) | (with_reducible assumption) | ((with_reducible show List.all _ DV.one = true); rfl) | ((with_reducible show (_ : Nat) = _); rfl) | ((with_reducible show (_ == true) = true); simpa using h) | ((with_reducible show (_ : Nat) ≤ _); exact Nat.le_of_ble_eq_true rfl) | ((with_reducible show (_ : Int) ≤ _); first | omega | decide) | ((with_reducible show (_ : Int) < _); first | omega | decide) | ((with_reducible show (_ : Nat) < _); omega) | ((with_reducible show (_ : Nat) ≤ _); omega)
    · rename_i e3
      conv => whnf
      exact Tells.of (r1 := .tup [links [], int1 43]) (by rw [linksR_no (lt_int e3) (by have := of_decide_eq_true h; omega)]) (Tells.mk (DW.tupl (DWl.cons (DW.nilLst _) (DWl.cons (DW.same _ rfl) DWl.nil))))
    · rename_i e3
      have hvn := lt_int e3
      refine Round.go (· + 1) ⟨hvn, fun u hu => ?_⟩ (by show n - (v + 1) < n - v; omega) (Weak.list [(0, some 0), (1, some 1)] [] (by kernel_rfl) ?_ ?_)
      · rcases Nat.lt_succ_iff_lt_or_eq.1 hu with h5 | h5
        · exact hv.2 u h5
        · subst h5; have := of_decide_eq_false h; omega
      · repeat' (first | exact wsucc hvn (by omega) | exact DWl.eq rfl (rowL_all _) | exact DW.same _ rfl | exact DW.ref _ _ _ rfl | exact DW.arr _ _ _ rfl | exact OW.cells rfl rfl (DWl.same rfl) | refine OW.cells rfl rfl ?_ | refine DWl.cons ?_ ?_ | exact DWl.nil | exact DW.nilArr _ rfl | exact DW.nilLst _ | refine DW.clol ?_ ?_ | refine DW.aggl ?_ | refine DW.tupl ?_ | refine DW.int ?_ | refine DW.bool ?_ | refine DW.str ?_ | refine DW.arrE rfl ?_ | ((conv => whnf); first | refine And.intro ?_ ?_ | trivial))
      · repeat' (first | exact wsucc hvn (by omega) | exact DWl.eq rfl (rowL_all _) | exact DW.same _ rfl | exact DW.ref _ _ _ rfl | exact DW.arr _ _ _ rfl | exact OW.cells rfl rfl (DWl.same rfl) | refine OW.cells rfl rfl ?_ | refine DWl.cons ?_ ?_ | exact DWl.nil | exact DW.nilArr _ rfl | exact DW.nilLst _ | refine DW.clol ?_ ?_ | refine DW.aggl ?_ | refine DW.tupl ?_ | refine DW.int ?_ | refine DW.bool ?_ | refine DW.str ?_ | refine DW.arrE rfl ?_ | ((conv => whnf); first | refine And.intro ?_ ?_ | trivial))
    · have hvn : v = n := by have := ge_int h; have := hv.1; omega
      conv => whnf
      exact Tells.of (r1 := .tup [links (sortL L), int1 0]) (by rw [linksR_ok (by rw [← hvn]; exact hv.2)]) (Tells.mk (DW.tupl (DWl.cons (DW.pubM rfl (sortL_len L) rfl rfl (linksRow _) (rowL_eq _)) (DWl.cons (DW.same _ rfl) DWl.nil))))
end Go.Proofs.Ytphgcgggbbcjgaa

/- The document's place for a pair. -/
namespace Go.Proofs.Ytphgcgggbbcjgaa
open Go.RowKit Go.Dl
attribute [local irreducible] Tri SCall DFun QSem PCall GCall MCall Round Weak dloadE OW DWl Tells IntKind.wrap Retold ESem

theorem lk_eq {x y : Lk} {b : Bool} (h : cellsEq [DV.v (Value.int IntKind.i64 x.1), DV.v (Value.int IntKind.i64 x.2)] [DV.v (Value.int IntKind.i64 y.1), DV.v (Value.int IntKind.i64 y.2)] = b) : b = decide (x = y) := by
  subst h
  cases x; cases y
  simp [cellsEq, cellEq]
  rfl
def hasSt (l : List Lk) (x : Lk) (i : Nat) : St := ⟨0, tmOf [(0, links l), (3, .ref 0 0), (5, int1 i)], .of [(0, ⟨44, 2, linkD x⟩)] 1⟩
theorem has_no {l : List Lk} {x : Lk} {i : Nat} (hi : i < l.length) (hn : x ∉ l.take i) (h : l.getD i lk0 ≠ x) : x ∉ l.take (i + 1) := by
  rw [take_succ (d := lk0) hi, List.mem_append, List.mem_singleton]
  exact fun hh => hh.elim hn fun e => h e.symm
theorem has_yes {l : List Lk} {x : Lk} {i : Nat} (hi : i < l.length) (h : l.getD i lk0 = x) : x ∈ l := by
  rw [← h, List.getD_eq_getElem?_getD, List.getElem?_eq_getElem hi]; exact List.getElem_mem hi
theorem has68_D (l : List Lk) (x : Lk) : DPure Try.prog 68 [links l, .agg (linkD x)] (.v (.bool (decide (x ∈ l)))) := by
  refine DFun.bound 0 rfl fun ha => ?_
  have ha : l.length ≤ 9223372036854775807 := by simpa [maxLen] using ha
  refine DFun.body Try.func68 rfl (by kernel_rfl) ?_
  repeat' (first | with_reducible rfl | ((conv => whnf); first | refine And.intro ?_ ?_ | (intro h; first | exact Bool.noConfusion h | with_reducible exact h | (have ht : true = true := h; clear ht h) | skip) | ((with_reducible refine DWl.mark ?_); repeat' (first | refine DWl.cons ?_ ?_ | exact DWl.nil | exact DW.same _ rfl | exact DW.ref _ _ _ rfl | exact DW.arr _ _ _ rfl | exact DW.sub _ _ _ _ rfl | exact DW.nilLst _ | refine DW.aggl ?_ | refine DW.tupl ?_ | refine DW.clol ?_ ?_ | refine DW.int ?_ | refine DW.bool ?_ | refine DW.str ?_)) | ((with_reducible refine Tri.mark ?_); first | refine Tri.loop (hasSt l x) (fun i => i ≤ l.length ∧ x ∉ l.take i) (fun i => l.length - i) (0) (by kernel_rfl) (Weak.list [(0, some 0)] [] ?_ ?_ ?_) ?_ ?_) | ((with_reducible refine Round.mark ?_); first | refine Round.go ((· + 1)) ?_ ?_ (Weak.list [(0, some 0)] [] ?_ ?_ ?_)) | ((with_reducible refine ex_mark ?_); first | refine dq_eql k44 ?_ rfl ?_ rfl rfl ?_ | refine dq_neq k44 ?_ rfl ?_ rfl rfl ?_) | refine dloadE_map (lk0) ?_ ?_ | refine dcell_ok rfl ?_ | refine AppC.new ?_))
  all_goals first | (with_reducible refine enters_mark ?_; kernel_rfl) | (with_reducible refine boolT_mark ?_; kernel_rfl) | rfl | trivial | assumption | exact Nat.le_of_ble_eq_true rfl | (show entersB _ _ = true; kernel_rfl) | exact DW.same _ rfl | exact DW.ref _ _ _ rfl | exact DW.arr _ _ _ rfl | refine DW.int ?_ | refine dvb ?_ | refine dvi ?_ | exact OW.cells rfl rfl (DWl.same rfl) | skip
  all_goals repeat' (first | exact OW.cells rfl rfl (DWl.same rfl) | refine OW.cells rfl rfl ?_ | exact DW.nilArr _ rfl | refine DW.clol ?_ ?_ | refine DWl.cons ?_ ?_ | exact DWl.nil | exact DW.same _ rfl | exact DW.ref _ _ _ rfl | exact DW.arr _ _ _ rfl | refine DW.int ?_)
  all_goals try (simp_all; done)
  all_goals try (simp at *; omega)
  · rename_i i hi e1
    have hii := lt_of_test e1
    exact (decide_eq_true (has_yes hii (by simpa using (lk_eq h).symm))).symm
  · rename_i i hi e1 e2
    exact has_no (lt_of_test e1) hi.2 (by simpa using (lk_eq e2).symm) h
  · rename_i i hi e1
    exact wsucc (lt_of_test e1) ha
  · rename_i i hi
    have := ge_of_test h
    rw [List.take_of_length_le this] at hi
    exact (decide_eq_false hi.2).symm

/-- A pair stands behind another one. -/
def gtB (y x : Lk) : Bool := bif decide (x.1 < y.1) then true else bif y.1 == x.1 then decide (x.2 < y.2) else false
def putStep (x : Lk) (s : List Lk × Bool) (y : Lk) : List Lk × Bool := if (!s.2 && gtB y x) = true then (s.1 ++ [x] ++ [y], true) else (s.1 ++ [y], s.2)
def putAt (x : Lk) (l : List Lk) (i : Nat) : List Lk × Bool := (l.take i).foldl (putStep x) ([], false)
theorem putAt_succ {x : Lk} {l : List Lk} {i : Nat} (h : i < l.length) : putAt x l (i + 1) = putStep x (putAt x l i) (l.getD i lk0) := by
  unfold putAt
  rw [take_succ (d := lk0) h, List.foldl_append]; rfl
def putL (x : Lk) (l : List Lk) : List Lk := if (putAt x l l.length).2 = true then (putAt x l l.length).1 else (putAt x l l.length).1 ++ [x]
def putX (a b : Int) : Lk := (if b < a then b else a, if a < b then b else a)
def putT (l : List Lk) (a b : Int) : List Lk := if (bif a == b then true else decide (putX a b ∈ l)) = true then l else putL (putX a b) l
theorem putAt_len (x : Lk) (l : List Lk) (i : Nat) : (putAt x l i).1.length ≤ i + 1 ∧ ((putAt x l i).2 = false → (putAt x l i).1.length ≤ i) := by
  induction i with
  | zero => simp [putAt]
  | succ i ih =>
    rcases Nat.lt_or_ge i l.length with h | h
    · rw [putAt_succ h]
      unfold putStep
      split
      · rename_i hh
        have : (putAt x l i).2 = false := by cases hq : (putAt x l i).2 <;> rw [hq] at hh <;> simp at hh ⊢
        have := ih.2 this
        simp; omega
      · simp only [List.length_append, List.length_singleton]
        exact ⟨by omega, fun hf => by have := ih.2 hf; omega⟩
    · have : putAt x l (i + 1) = putAt x l i := by unfold putAt; rw [List.take_of_length_le h, List.take_of_length_le (by omega)]
      rw [this]
      exact ⟨by omega, fun hf => by have := ih.2 hf; omega⟩
def putSt (x : Lk) (l : List Lk) (i : Nat) : St := ⟨0, tmOf [(0, links l), (7, .ref 0 0), (8, .arr 1 (putAt x l i).1.length), (9, .v (.bool (putAt x l i).2)), (10, int1 i)], .of [(0, ⟨44, 2, linkD x⟩), (1, ⟨44, 2, rowL (putAt x l i).1⟩)] 2⟩
theorem putAt_len0 (x : Lk) (l : List Lk) : (putAt x l 0).1.length = 0 := rfl
theorem putAt_d0 (x : Lk) (l : List Lk) : false = (putAt x l 0).2 := rfl
theorem putAt_row0 (x : Lk) (l : List Lk) : rowL (putAt x l 0).1 = [] := rfl
theorem row_le (P : List Lk) : P.length * Try.prog.types[44].size ≤ (rowL P).length := by
  show P.length * 2 ≤ _
  rw [rowL_len]; exact Nat.le_refl _
theorem put_b1 {P l : List Lk} {i : Nat} (h : P.length ≤ i + 1) (hi : i ≤ l.length) (hl : l.length ≤ 1000) : (P.length + 1) * Try.prog.types[44].bytes ≤ 140737488355328 := by
  show (P.length + 1) * 16 ≤ _
  omega
theorem put_b2 {P l : List Lk} {i : Nat} (h : P.length ≤ i + 1) (hi : i ≤ l.length) (hl : l.length ≤ 1000) : P.length + 1 ≤ maxLen := by simp only [maxLen]; omega
theorem put_b3 {P l : List Lk} {i : Nat} (h : P.length ≤ i + 1) (hi : i ≤ l.length) (hl : l.length ≤ 1000) : (P.length + 1 + 1) * Try.prog.types[44].bytes ≤ 140737488355328 := by
  show (P.length + 1 + 1) * 16 ≤ _
  omega
theorem put_b4 {P l : List Lk} {i : Nat} (h : P.length ≤ i + 1) (hi : i ≤ l.length) (hl : l.length ≤ 1000) : P.length + 1 + 1 ≤ maxLen := by simp only [maxLen]; omega
theorem putAt_yes {x : Lk} {l : List Lk} {i : Nat} (hi : i < l.length) (h : (bif !(putAt x l i).2 then bif decide (x.1 < (l.getD (i : Int).toNat lk0).1) then true else bif (l.getD (i : Int).toNat lk0).1 == x.1 then decide (x.2 < (l.getD (i : Int).toNat lk0).2) else false else false) = true) :
    putAt x l (i + 1) = ((putAt x l i).1 ++ [x] ++ [l.getD i lk0], true) := by
  rw [Int.toNat_natCast] at h
  rw [putAt_succ hi, putStep, if_pos]
  cases hq : (putAt x l i).2 <;> rw [hq] at h <;> first | exact h | cases h
theorem putAt_no {x : Lk} {l : List Lk} {i : Nat} (hi : i < l.length) (h : (bif !(putAt x l i).2 then bif decide (x.1 < (l.getD (i : Int).toNat lk0).1) then true else bif (l.getD (i : Int).toNat lk0).1 == x.1 then decide (x.2 < (l.getD (i : Int).toNat lk0).2) else false else false) = false) :
    putAt x l (i + 1) = ((putAt x l i).1 ++ [l.getD i lk0], (putAt x l i).2) := by
  rw [Int.toNat_natCast] at h
  rw [putAt_succ hi, putStep, if_neg]
  cases hq : (putAt x l i).2 <;> rw [hq] at h
  · exact fun hh => by rw [show gtB (l.getD i lk0) x = false from h] at hh; cases hh
  · exact fun hh => by cases hh
theorem putAt_yes2 {x : Lk} {l : List Lk} {i : Nat} {P : List Lk} (h : putAt x l (i + 1) = (P, true)) : true = (putAt x l (i + 1)).2 := by rw [h]
theorem putAt_yesL {x y : Lk} {l : List Lk} {i : Nat} (h : putAt x l (i + 1) = ((putAt x l i).1 ++ [x] ++ [y], true)) : (putAt x l i).1.length + 1 + 1 = (putAt x l (i + 1)).1.length := by rw [h]; simp
theorem putAt_yesR {x : Lk} {l : List Lk} {i : Nat} (h : putAt x l (i + 1) = ((putAt x l i).1 ++ [x] ++ [l.getD i lk0], true)) :
    ((rowL (putAt x l i).1).take ((putAt x l i).1.length * 2) ++ [DV.v (.int .i64 x.1), DV.v (.int .i64 x.2)]).take (((putAt x l i).1.length + 1) * 2) ++ [DV.v (.int .i64 (l.getD (i : Int).toNat lk0).1), DV.v (.int .i64 (l.getD (i : Int).toNat lk0).2)] = rowL (putAt x l (i + 1)).1 := by
  rw [rowL_push rfl, rowL_push (by simp), h, Int.toNat_natCast]
theorem putAt_no2 {x : Lk} {l : List Lk} {i : Nat} {P : List Lk} (h : putAt x l (i + 1) = (P, (putAt x l i).2)) : (putAt x l i).2 = (putAt x l (i + 1)).2 := by rw [h]
theorem putAt_noL {x y : Lk} {l : List Lk} {i : Nat} (h : putAt x l (i + 1) = ((putAt x l i).1 ++ [y], (putAt x l i).2)) : (putAt x l i).1.length + 1 = (putAt x l (i + 1)).1.length := by rw [h]; simp
theorem putAt_noR {x : Lk} {l : List Lk} {i : Nat} (h : putAt x l (i + 1) = ((putAt x l i).1 ++ [l.getD i lk0], (putAt x l i).2)) :
    (rowL (putAt x l i).1).take ((putAt x l i).1.length * 2) ++ [DV.v (.int .i64 (l.getD (i : Int).toNat lk0).1), DV.v (.int .i64 (l.getD (i : Int).toNat lk0).2)] = rowL (putAt x l (i + 1)).1 := by
  rw [rowL_push rfl, h, Int.toNat_natCast]
theorem grid_row1' (P : List Lk) (x : Lk) : (rowL P).take (P.length * 2) ++ [DV.v (.int .i64 x.1), DV.v (.int .i64 x.2)] = rowL (P ++ [x]) := by
  rw [rowL_push rfl]
theorem put_b5 {P : List Lk} {a b : DV} : (P.length + 1) * 2 ≤ ((rowL P).take (P.length * 2) ++ [a, b]).length := by
  rw [List.length_append, List.length_take, rowL_len]; simp; omega
attribute [local irreducible] putAt rowL
set_option maxRecDepth 20000 in
theorem put46_D (l : List Lk) (a b : Int) (hl : l.length ≤ 1000) : DPure Try.prog 46 [links l, int1 a, int1 b] (links (putT l a b)) := by
  have hx : putX a b = (if b < a then b else a, if a < b then b else a) := by unfold putX; rfl
  refine DFun.data (DFun.body Try.func46 rfl (by kernel_rfl) ?_)
  repeat' (first | with_reducible rfl | ((conv => whnf); first | refine And.intro ?_ ?_ | (intro h; first | exact Bool.noConfusion h | with_reducible exact h | (have ht : true = true := h; clear ht h) | skip) | ((with_reducible refine DWl.mark ?_); repeat' (first | refine DWl.cons ?_ ?_ | exact DWl.nil | exact DW.same _ rfl | exact DW.ref _ _ _ rfl | exact DW.arr _ _ _ rfl | exact DW.sub _ _ _ _ rfl | exact DW.nilLst _ | refine DW.aggl ?_ | refine DW.tupl ?_ | refine DW.clol ?_ ?_ | refine DW.int ?_ | refine DW.bool ?_ | refine DW.str ?_)) | ((with_reducible refine SCall.mark ?_); first | refine SCall.data (has68_D l (putX a b)) rfl rfl ?_ | refine SCall.scal (has68_D l (putX a b)) rfl rfl ?_) | ((with_reducible refine PCall.mark ?_); first | refine PCall.mk (has68_D l (putX a b)) rfl rfl ?_) | ((with_reducible refine GCall.mark ?_); first | refine GCall.data (fun _ => has68_D l (putX a b)) rfl rfl ?_ | refine GCall.scal (fun _ => has68_D l (putX a b)) rfl rfl ?_) | ((with_reducible refine MCall.mark ?_); first | refine MCall.data (fun _ => has68_D l (putX a b)) rfl rfl ?_ | refine MCall.plain (PCall.mk (has68_D l (putX a b)) rfl rfl ?_)) | ((with_reducible refine Tri.mark ?_); first | refine Tri.loop (putSt (putX a b) l) ((· ≤ l.length)) (fun i => l.length - i) (0) (by kernel_rfl) (Weak.list [(0, some 0), (1, none)] [] ?_ ?_ ?_) ?_ ?_) | refine dloadE_map (lk0) ?_ ?_ | refine dcell_ok rfl ?_ | refine AppC.new ?_))
  all_goals first | (with_reducible refine enters_mark ?_; kernel_rfl) | (with_reducible refine boolT_mark ?_; kernel_rfl) | rfl | trivial | assumption | exact Nat.le_of_ble_eq_true rfl | (show entersB _ _ = true; kernel_rfl) | exact DW.same _ rfl | exact DW.ref _ _ _ rfl | exact DW.arr _ _ _ rfl | refine DW.int ?_ | refine dvb ?_ | refine dvi ?_ | exact OW.cells rfl rfl (DWl.same rfl) | exact Nat.zero_le _ | omega | skip
  all_goals repeat' (first | refine OW.cells rfl rfl ?_ | exact DW.nilArr _ rfl | refine DWl.cons ?_ ?_ | exact DWl.nil | exact DW.same _ rfl | exact DW.ref _ _ _ rfl | exact DW.arr _ _ _ rfl | exact DW.sub _ _ _ _ rfl | exact DW.nilLst _ | refine DW.aggl ?_ | refine DW.tupl ?_ | refine DW.clol ?_ ?_)
  all_goals try ((conv => whnf); with_reducible first | refine Round.mark ?_ | refine Tells.mark ?_ | refine Retold.mark ?_)
  all_goals try first | (show (_ : Bool) = _; simp_all; done) | (show (_ : Int) < _; simp at *; omega) | (show (_ : Int) ≤ _; simp at *; omega) | (show (_ : Nat) < _; simp at *; omega) | (show (_ : Nat) ≤ _; simp at *; omega)
  · exact Tells.of (r1 := links l) (by unfold putT; rw [if_pos h]) (Tells.mk (DW.same _ rfl))
  · exact DW.nilArrE rfl (putAt_len0 _ _)
  · exact DW.bool (putAt_d0 _ _)
  · conv => whnf
    exact putAt_row0 _ _
  · exact row_le _
  · exact put_b1 (putAt_len _ _ _).1 (by assumption) hl
  · exact put_b2 (putAt_len _ _ _).1 (by assumption) hl
  · exact put_b5
  · exact put_b3 (putAt_len _ _ _).1 (by assumption) hl
  · exact put_b4 (putAt_len _ _ _).1 (by assumption) hl
  · rename_i i hi e1
    have hil := lt_of_test e1
    have e4 := putAt_yes hil h
    refine Round.go (· + 1) hil (by show l.length - (i + 1) < l.length - i; omega) (Weak.list [(0, some 0), (1, some 5)] [] (by kernel_rfl) ?_ ?_)
    · repeat' (first | exact wsucc hil (by omega) | exact DW.bool (putAt_yes2 e4) | exact DWl.eq (putAt_yesR e4) (rowL_all _) | exact putAt_yesL e4 | exact DW.same _ rfl | exact DW.ref _ _ _ rfl | exact DW.arr _ _ _ rfl | exact OW.cells rfl rfl (DWl.same rfl) | refine OW.cells rfl rfl ?_ | refine DWl.cons ?_ ?_ | exact DWl.nil | exact DW.nilArr _ rfl | exact DW.nilLst _ | refine DW.clol ?_ ?_ | refine DW.aggl ?_ | refine DW.tupl ?_ | refine DW.int ?_ | refine DW.bool ?_ | refine DW.str ?_ | refine DW.arrE rfl ?_ | ((conv => whnf); first | refine And.intro ?_ ?_ | trivial))
    · repeat' (first | exact wsucc hil (by omega) | exact DW.bool (putAt_yes2 e4) | exact DWl.eq (putAt_yesR e4) (rowL_all _) | exact putAt_yesL e4 | exact DW.same _ rfl | exact DW.ref _ _ _ rfl | exact DW.arr _ _ _ rfl | exact OW.cells rfl rfl (DWl.same rfl) | refine OW.cells rfl rfl ?_ | refine DWl.cons ?_ ?_ | exact DWl.nil | exact DW.nilArr _ rfl | exact DW.nilLst _ | refine DW.clol ?_ ?_ | refine DW.aggl ?_ | refine DW.tupl ?_ | refine DW.int ?_ | refine DW.bool ?_ | refine DW.str ?_ | refine DW.arrE rfl ?_ | ((conv => whnf); first | refine And.intro ?_ ?_ | trivial))
  · exact row_le _
  · exact put_b1 (putAt_len _ _ _).1 (by assumption) hl
  · exact put_b2 (putAt_len _ _ _).1 (by assumption) hl
  · rename_i i hi e1
    have hil := lt_of_test e1
    have e4 := putAt_no hil h
    refine Round.go (· + 1) hil (by show l.length - (i + 1) < l.length - i; omega) (Weak.list [(0, some 0), (1, some 3)] [] (by kernel_rfl) ?_ ?_)
    · repeat' (first | exact wsucc hil (by omega) | exact DW.bool (putAt_no2 e4) | exact DWl.eq (putAt_noR e4) (rowL_all _) | exact putAt_noL e4 | exact DW.same _ rfl | exact DW.ref _ _ _ rfl | exact DW.arr _ _ _ rfl | exact OW.cells rfl rfl (DWl.same rfl) | refine OW.cells rfl rfl ?_ | refine DWl.cons ?_ ?_ | exact DWl.nil | exact DW.nilArr _ rfl | exact DW.nilLst _ | refine DW.clol ?_ ?_ | refine DW.aggl ?_ | refine DW.tupl ?_ | refine DW.int ?_ | refine DW.bool ?_ | refine DW.str ?_ | refine DW.arrE rfl ?_ | ((conv => whnf); first | refine And.intro ?_ ?_ | trivial))
    · repeat' (first | exact wsucc hil (by omega) | exact DW.bool (putAt_no2 e4) | exact DWl.eq (putAt_noR e4) (rowL_all _) | exact putAt_noL e4 | exact DW.same _ rfl | exact DW.ref _ _ _ rfl | exact DW.arr _ _ _ rfl | exact OW.cells rfl rfl (DWl.same rfl) | refine OW.cells rfl rfl ?_ | refine DWl.cons ?_ ?_ | exact DWl.nil | exact DW.nilArr _ rfl | exact DW.nilLst _ | refine DW.clol ?_ ?_ | refine DW.aggl ?_ | refine DW.tupl ?_ | refine DW.int ?_ | refine DW.bool ?_ | refine DW.str ?_ | refine DW.arrE rfl ?_ | ((conv => whnf); first | refine And.intro ?_ ?_ | trivial))
  · exact row_le _
  · exact put_b1 (putAt_len _ _ _).1 (by assumption) hl
  · exact put_b2 (putAt_len _ _ _).1 (by assumption) hl
  · rename_i e0 i hi e1
    have hil : i = l.length := by have := ge_of_test e1; omega
    have e2 : putT l a b = (putAt (putX a b) l i).1 ++ [putX a b] := by
      unfold putT
      rw [if_neg (by rw [e0]; exact Bool.false_ne_true), putL, if_neg (by rw [← hil]; simpa using h), hil]
    exact Tells.of (r1 := links ((putAt (putX a b) l i).1 ++ [putX a b])) (by rw [e2]) (Tells.mk (DW.pubM rfl (by simp) rfl rfl (linksRow _) (by rw [← rowL_eq]; exact grid_row1' _ _)))
  · rename_i e0 i hi e1
    have hil : i = l.length := by have := ge_of_test e1; omega
    have e2 : putT l a b = (putAt (putX a b) l i).1 := by
      unfold putT
      rw [if_neg (by rw [e0]; exact Bool.false_ne_true), putL, if_pos (by rw [← hil]; simpa using h), hil]
    exact Tells.of (r1 := links (putAt (putX a b) l i).1) (by rw [e2]) (Tells.mk (DW.pubM rfl rfl rfl rfl (linksRow _) (rowL_eq _)))
end Go.Proofs.Ytphgcgggbbcjgaa
