/- A table's keys: the program's. -/
import Derived.Test.YtpaakagaiogknaaGreatKwB
import Derived.Test.YtpaakagaiogknaaGreatKwS
import Derived.Sort.KeysCollected
import Derived.RangeFuncLeaves
set_option linter.all false
set_option linter.deprecated false
set_option linter.all false
namespace Go.Proofs
open Go.RowKit Go.Maps Go.Sort Go.Shelf
theorem Tryz.sorts28 (m : Nat) : AnyZ.SortsIn Tryz.prog Tryz.sorted28_ren Fence.wide m :=
  ⟨fun blk off cap ss W hH hblk hsz => callsIn_wide.2 (AnyM.slices_Sort_string Tryz.sort36 blk off cap ss W hH hblk hsz),
   fun p cap W => callsIn_wide.2 (AnyM.slices_Sort_string_none Tryz.sort36 p cap W)⟩

theorem Tryz.maps_Keys_29 (mb : Option Nat) (W : World) : CallsIn Fence.wide 5 Tryz.prog 29 #[.map mb] W fun e w' => e = .returned (.func (.func 37) #[] #[.pointer (some ⟨W.heap.size, 0, none⟩)]) ∧ w' = W.alloc (.cells #[.map mb] 47) :=
  AnyZ.keys_in Tryz.keys29 Fence.wide 5 trivial rfl mb W

set_option maxHeartbeats 1000000 in
theorem Tryz.slices_Sorted_keys_28_29 {H : Type} (b nn : Nat) (D0 : DataW H) (R : Value → Option (DataW H × List MemPlace)) (w : World) (hown : w.ownsMap Tryz.prog 9 R b nn D0) (hmax : Maps.size D0 ≤ maxLen) (hbytes : Maps.size D0 * 16 ≤ 140737488355328) :
    CallsIn Fence.wide 5 Tryz.prog 28 #[.func (.func 37) #[] #[.pointer (some ⟨w.heap.size, 0, none⟩)]] (w.alloc (.cells #[.map (some b)] 47)) fun e w' => ∃ (v : Value) (ss : List (List UInt8)), e = .returned v ∧ ss.Perm (strKeys D0) ∧
      w'.ownsRow (w.alloc (.cells #[.map (some b)] 47)).heap.size 9 1 v ss.length ((ss.mergeSort (fun x y => decide (x ≤ y))).map encStr) ∧ (v = .slice none 0 0 ↔ ss = []) ∧ Below (w.alloc (.cells #[.map (some b)] 47)).heap.size (w.alloc (.cells #[.map (some b)] 47)) w' := by
  have hbl := hown.lt
  have hseq : SeqGives Fence.wide 2 Tryz.prog 37 #[.pointer (some ⟨w.heap.size, 0, none⟩)] encStr (fun ss => ss.Perm (strKeys D0)) (Maps.size D0) (w.alloc (.cells #[.map (some b)] 47)) :=
    AnyZ.keys_gives (ρ := Tryz.keys29_ren) { Tryz.keys29 with } Fence.wide _ trivial rfl (by omega) w.heap.size b nn D0 _ (by simp) (by simp) (by
      obtain ⟨es, clock, hb, Ft, hs, hD⟩ := hown
      exact ⟨es, clock, (Below.heap_alloc _ _ b hbl).trans hb, Ft, hs, hD⟩)
  exact AnyZ.sorted_in Tryz.sorted28 Fence.wide 5 trivial trivial trivial trivial rfl (by omega) (Tryz.sorts28 _) (enters_of Tryz.func36 (by kernel_rfl) rfl) 37 #[.pointer (some ⟨w.heap.size, 0, none⟩)] trivial (enters_of Tryz.func37 (by kernel_rfl) rfl) _ _ hmax hbytes _ hseq

set_option maxHeartbeats 1000000 in
theorem Tryz.slices_Sorted_keys_nil_28_29 (w : World) :
    CallsIn Fence.wide 5 Tryz.prog 28 #[.func (.func 37) #[] #[.pointer (some ⟨w.heap.size, 0, none⟩)]] (w.alloc (.cells #[.map none] 47)) fun e w' => ∃ (v : Value) (ss : List (List UInt8)), e = .returned v ∧ ss = [] ∧
      w'.ownsRow (w.alloc (.cells #[.map none] 47)).heap.size 9 1 v ss.length ((ss.mergeSort (fun x y => decide (x ≤ y))).map encStr) ∧ (v = .slice none 0 0 ↔ ss = []) ∧ Below (w.alloc (.cells #[.map none] 47)).heap.size (w.alloc (.cells #[.map none] 47)) w' := by
  have hseq : SeqGives Fence.wide 2 Tryz.prog 37 #[.pointer (some ⟨w.heap.size, 0, none⟩)] encStr (fun ss : List (List UInt8) => ss = []) 0 (w.alloc (.cells #[.map none] 47)) :=
    AnyZ.keys_gives_nil (ρ := Tryz.keys29_ren) { Tryz.keys29 with } Fence.wide _ trivial rfl w.heap.size _ (by simp) (by simp)
  exact AnyZ.sorted_in Tryz.sorted28 Fence.wide 5 trivial trivial trivial trivial rfl (by omega) (Tryz.sorts28 _) (enters_of Tryz.func36 (by kernel_rfl) rfl) 37 #[.pointer (some ⟨w.heap.size, 0, none⟩)] trivial (enters_of Tryz.func37 (by kernel_rfl) rfl) _ 0 (Nat.zero_le _) (by omega) _ hseq
end Go.Proofs
namespace Go.Am
open Go.Proofs Go.RowKit Go.WideMaps Go.Maps Go.Sort Go.Shelf
set_option maxRecDepth 100000
set_option maxHeartbeats 4000000
theorem Names_map (t : Int) (b nn : Nat) (D0 : DataW Unit) (w : World) (hall : Calls Tryz.prog 27 #[.int .i64 t] w fun e w' => e = .returned (.map (some w.heap.size)) ∧ w'.ownsMap Tryz.prog 9 (plainElem (H := Unit) Tryz.prog 3) w.heap.size nn D0 ∧ Below w.heap.size w w') (hmax : Maps.size D0 ≤ 100) :
    Calls Tryz.prog 18 #[.int .i64 t] w fun e w' => ∃ (v : Value) (ss : List (List UInt8)), e = .returned v ∧ ss.Perm (strKeys D0) ∧ w'.ownsRow w.heap.size 9 1 v ss.length ((ss.mergeSort (fun x y => decide (x ≤ y))).map encStr) ∧ (v = .slice none 0 0 ↔ ss = []) ∧ Below w.heap.size w w' := by
  refine (callsIn_wide (n := 6)).1 ?_
  have hfK : Fence.wide.fn 29 := trivial
  have hfS : Fence.wide.fn 28 := trivial
  have hfA : Fence.wide.fn 27 := trivial
  refine callsIn_of_wp Tryz.func18 rfl trivial ?_ rfl
  simp only [Tryz.ntmps18, List.size_toArray, List.length_cons, List.length_nil, Nat.reduceAdd, Nat.reduceSub, Array.replicate_succ, Array.replicate_zero, List.push_toArray, List.append_toArray, List.nil_append, List.cons_append]
  gi_wp2_with (first
    | (gi_at_call 27; refine (callsIn_wide.2 hall).mono ?_; rintro e w1 ⟨rfl, hown, hb1⟩)
    | (gi_at_call 29; refine (Tryz.maps_Keys_29 _ _).mono ?_; rintro e w' ⟨rfl, rfl⟩)
    | (gi_at_call 28; refine (Tryz.slices_Sorted_keys_28_29 _ nn D0 _ w1 hown (by unfold maxLen; omega) (by omega)).mono ?_; rintro e w' ⟨v, ss, rfl, hS, hrow, hnil, hb⟩))
  have hsz := hb1.size
  go_ret
  refine ⟨v, ss, rfl, hS, ownsRow_base_a hrow (by simp; omega), hnil, (hb1.trans ((RowKit.Below.refl w.heap.size w1).alloc hsz _)).trans (hb.mono (by simp; omega))⟩
theorem Names_none (t : Int) (w : World) (hall : Calls Tryz.prog 27 #[.int .i64 t] w fun e w' => e = .returned (.map none) ∧ w' = w) :
    Calls Tryz.prog 18 #[.int .i64 t] w fun e w' => e = .returned (.slice none 0 0) ∧ RowKit.Below w.heap.size w w' := by
  refine (callsIn_wide (n := 6)).1 ?_
  have hfK : Fence.wide.fn 29 := trivial
  have hfS : Fence.wide.fn 28 := trivial
  have hfA : Fence.wide.fn 27 := trivial
  refine callsIn_of_wp Tryz.func18 rfl trivial ?_ rfl
  simp only [Tryz.ntmps18, List.size_toArray, List.length_cons, List.length_nil, Nat.reduceAdd, Nat.reduceSub, Array.replicate_succ, Array.replicate_zero, List.push_toArray, List.append_toArray, List.nil_append, List.cons_append]
  gi_wp2_with (first
    | (gi_at_call 27; refine (callsIn_wide.2 hall).mono ?_; rintro e w1 ⟨rfl, rfl⟩)
    | (gi_at_call 29; refine (Tryz.maps_Keys_29 _ _).mono ?_; rintro e w' ⟨rfl, rfl⟩)
    | (gi_at_call 28; refine (Tryz.slices_Sorted_keys_nil_28_29 w1).mono ?_; rintro e w' ⟨v, ss, rfl, hS, hrow, hnil, hb⟩))
  go_ret
  exact ⟨by rw [hnil.2 hS]; rfl, ((RowKit.Below.refl _ _).alloc (Nat.le_refl _) _).trans (hb.mono (by simp))⟩
def viN : List (List UInt8) := [[36], [48], [67, 45, 118], [68, 111, 119, 110], [69, 110, 116, 101, 114], [69, 115, 99, 97, 112, 101], [71], [76, 101, 102, 116], [78], [82, 105, 103, 104, 116], [83, 112, 97, 99, 101], [85, 112], [86], [98], [101], [103], [104], [106], [107], [108], [110], [111], [113], [118], [119], [121]]
theorem viN_perm : (strKeys (putsD (H := Unit) (.map []) viT)).Perm viN := by decide +kernel
theorem viN_sort : viN.mergeSort leB = viN := List.mergeSort_of_pairwise (by decide +kernel)
theorem viN_size : Maps.size (putsD (H := Unit) (.map []) viT) = 26 := by decide +kernel
def emN : List (List UInt8) := [[67, 45, 83, 112, 97, 99, 101], [67, 45, 97], [67, 45, 98], [67, 45, 101], [67, 45, 102], [67, 45, 103], [67, 45, 110], [67, 45, 112], [67, 45, 120], [68, 111, 119, 110], [76, 101, 102, 116], [77, 45, 60], [77, 45, 62], [77, 45, 98], [77, 45, 102], [77, 45, 119], [78], [82], [82, 105, 103, 104, 116], [85, 112], [110], [113]]
theorem emN_perm : (strKeys (putsD (H := Unit) (.map []) emT)).Perm emN := by decide +kernel
theorem emN_sort : emN.mergeSort leB = emN := List.mergeSort_of_pairwise (by decide +kernel)
theorem emN_size : Maps.size (putsD (H := Unit) (.map []) emT) = 22 := by decide +kernel
end Go.Am
