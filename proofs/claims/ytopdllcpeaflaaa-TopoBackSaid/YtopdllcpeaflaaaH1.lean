/- Rows of what happens: Play. -/
import Derived.Test.YtopdllcpeaflaaaG
import Derived.Test.YtopdllcpeaflaaaDl17
namespace Go.Proofs.Ytopdllcpeaflaaa
open Go.RowKit Go.Dl
attribute [local irreducible] Tri SCall DFun QSem PCall GCall MCall Round Weak dloadE OW DWl Tells darr dcell IntKind.wrap Retold

def stepH (g : HalfL) (told : List Int) (k : Int) : (HalfL × List Int) × Bool :=
  if k = 1 then (((turnH g).1, told ++ [(turnH g).2]), decide ((turnH g).2 = 2)) else
  if k = 2 then ((askedH g, told), false) else if k = 3 then ((heardH g, told), false) else if k = 4 then ((answeredH g, told), false) else ((g, told), false)
def playH : List Int → HalfL → List Int → HalfL × List Int
  | [], g, told => (g, told)
  | k :: l, g, told => if (stepH g told k).2 = true then (stepH g told k).1 else playH l (stepH g told k).1.1 (stepH g told k).1.2

structure PlayI where
  k : Nat
  g : HalfL
  told : List Int
def toldC (told : List Int) : List DV := (told.map intD).flatten
def half0C : List DV := [.v (.int .i64 0), .v (.int .i64 0), .v (.int .i64 0), .v (.slice none 0 0), .v (.bool false), .v (.int .i64 0)]
def playSto (t : Nat) (g : HalfL) (told : List Int) : List (Nat × DObj) :=
  [(1, ⟨24, 6, half0C⟩), (3, ⟨64, 7, halfC g ++ [.arr t told.length]⟩),
    (4, ⟨1, 1, [.clo (.func 46) [.ref 3 0] [], .clo (.func 47) [.ref 3 0] [], .clo (.func 48) [.ref 3 0] [], .clo (.func 49) [.ref 3 0] []]⟩), (t, ⟨3, 1, toldC told⟩)]

theorem toldC_len (told : List Int) : (toldC told).length = told.length := by
  unfold toldC
  induction told with
  | nil => rfl
  | cons x l ih => simp only [List.map_cons, List.flatten_cons, List.length_append, ih, intD, List.length_cons, List.length_nil]; omega
theorem toldC_add (told : List Int) (x : Int) : (toldC told).take (told.length * 1) ++ [.v (.int .i64 x)] = toldC (told ++ [x]) := by
  rw [Nat.mul_one, ← toldC_len, List.take_length]
  simp [toldC, intD]

theorem toldC_all (told : List Int) : (toldC told).all noId1 = true := by
  simp only [toldC, List.all_eq_true, List.mem_flatten, List.mem_map]
  rintro d ⟨r, ⟨x, _, rfl⟩, hd⟩
  simp [intD] at hd
  subst hd; rfl

theorem turn_P (g : HalfL) (told : List Int) (K : DV → Sto → Prop) (h0 : 0 ≤ g.miss) (h3 : g.miss < 3) (ht : (told.length + 1) * 8 ≤ 140737488355328)
    (hK : K (.tup []) (.of (playSto 7 (turnH g).1 (told ++ [(turnH g).2])) 8)) : SCall Try.prog 46 [.ref 3 0] (.of (playSto 5 g told) 6) K := by
  refine SCall.retell (SCall.run Try.func46 rfl (Nat.le_of_ble_eq_true rfl) (by kernel_rfl) ?_)
  have hw : IntKind.i64.wrap (g.miss + 1) = g.miss + 1 := wrapS (by omega) (by omega)
  repeat' (first | with_reducible rfl | ((conv => whnf); first | refine And.intro ?_ ?_ | (intro h; first | exact Bool.noConfusion h | with_reducible exact h | (have ht : true = true := h; clear ht h) | skip) | ((with_reducible refine DWl.mark ?_); repeat' (first | refine DWl.cons ?_ ?_ | exact DWl.nil | exact DW.same _ rfl | exact DW.ref _ _ _ rfl | exact DW.arr _ _ _ rfl | exact DW.sub _ _ _ _ rfl | exact DW.nilLst _ | refine DW.aggl ?_ | refine DW.tupl ?_ | refine DW.clol ?_ ?_ | refine DW.int ?_ | refine DW.bool ?_ | refine DW.str ?_)) | refine dcell_ok rfl ?_ | refine AppC.new ?_))
  all_goals first | (with_reducible refine enters_mark ?_; kernel_rfl) | (with_reducible refine boolT_mark ?_; kernel_rfl) | rfl | trivial | assumption | exact Nat.le_of_ble_eq_true rfl | (show entersB _ _ = true; kernel_rfl) | exact DW.same _ rfl | exact DW.ref _ _ _ rfl | exact DW.arr _ _ _ rfl | refine DW.int ?_ | refine dvb ?_ | refine dvi ?_ | exact OW.cells rfl rfl (DWl.same rfl) | skip
  all_goals repeat' (first | exact OW.cells rfl rfl (DWl.same rfl) | refine OW.cells rfl rfl ?_ | exact DW.nilArr _ rfl | refine DW.clol ?_ ?_ | refine DWl.cons ?_ ?_ | exact DWl.nil | exact DW.same _ rfl | exact DW.ref _ _ _ rfl | exact DW.arr _ _ _ rfl | refine DW.int ?_)
  all_goals try (simp_all; done)
  all_goals try (simp at *; omega)
  all_goals try (show told.length * 1 ≤ (toldC told).length; rw [toldC_len]; omega)
  all_goals try (show told.length + 1 ≤ maxLen; simp only [maxLen]; omega)
  · rename_i hp
    rw [hw] at h
    simp only [decide_eq_true_eq] at h
    have e : turnH g = (half0, 2) := by simp [turnH, hp, h]
    rw [e] at hK
    have hK : K (.tup []) (.of (playSto 7 half0 (told ++ [2])) 8) := hK
    refine Retold.list [(7, some 7)] [] (.tup []) _ 8 (by kernel_rfl) ?_ ?_ hK
    · exact DW.tupl DWl.nil
    · repeat' (first | refine And.intro ?_ ?_ | exact OW.cells rfl rfl (DWl.same rfl) | exact OW.same rfl rfl (toldC_add _ _) (toldC_all _) | refine OW.cells rfl rfl ?_ | exact DW.nilLst _ | refine DW.clol ?_ ?_ | refine DWl.cons ?_ ?_ | exact DWl.nil | exact DW.same _ rfl | exact DW.ref _ _ _ rfl | exact DW.arr _ _ _ rfl | refine DW.arrE rfl ?_ | refine DW.int ?_ | refine DW.bool ?_ | exact hp.symm | exact hw | (show _ = List.length _; simp; done) | trivial)
  · rename_i hp
    rw [hw] at h
    simp only [decide_eq_false_iff_not] at h
    have e : turnH g = ({ g with miss := g.miss + 1 }, 1) := by simp [turnH, hp, h]
    rw [e] at hK
    have hK : K (.tup []) (.of (playSto 7 { g with miss := g.miss + 1 } (told ++ [1])) 8) := hK
    refine Retold.list [(7, some 7)] [] (.tup []) _ 8 (by kernel_rfl) ?_ ?_ hK
    · exact DW.tupl DWl.nil
    · repeat' (first | refine And.intro ?_ ?_ | exact OW.cells rfl rfl (DWl.same rfl) | exact OW.same rfl rfl (toldC_add _ _) (toldC_all _) | refine OW.cells rfl rfl ?_ | exact DW.nilLst _ | refine DW.clol ?_ ?_ | refine DWl.cons ?_ ?_ | exact DWl.nil | exact DW.same _ rfl | exact DW.ref _ _ _ rfl | exact DW.arr _ _ _ rfl | refine DW.arrE rfl ?_ | refine DW.int ?_ | refine DW.bool ?_ | exact hp.symm | exact hw | (show _ = List.length _; simp; done) | trivial)
  · rename_i hp
    simp only [decide_eq_false_iff_not] at h
    have e : turnH g = ({ g with pend := true }, 1) := by simp [turnH, hp, h]
    rw [e] at hK
    have hK : K (.tup []) (.of (playSto 7 { g with pend := true } (told ++ [1])) 8) := hK
    refine Retold.list [(7, some 7)] [] (.tup []) _ 8 (by kernel_rfl) ?_ ?_ hK
    · exact DW.tupl DWl.nil
    · repeat' (first | refine And.intro ?_ ?_ | exact OW.cells rfl rfl (DWl.same rfl) | exact OW.same rfl rfl (toldC_add _ _) (toldC_all _) | refine OW.cells rfl rfl ?_ | exact DW.nilLst _ | refine DW.clol ?_ ?_ | refine DWl.cons ?_ ?_ | exact DWl.nil | exact DW.same _ rfl | exact DW.ref _ _ _ rfl | exact DW.arr _ _ _ rfl | refine DW.arrE rfl ?_ | refine DW.int ?_ | refine DW.bool ?_ | (show _ = List.length _; simp; done) | trivial)

end Go.Proofs.Ytopdllcpeaflaaa
