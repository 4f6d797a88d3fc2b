/- The tables of keys, as maps of the program's own. -/
import Derived.Test.YtpaakagaiogknaaGreatProg
import Derived.WalkKit
import Derived.Maps.OwnOps
set_option linter.all false
set_option linter.deprecated false
set_option linter.all false
namespace Go.Am
open Go.Proofs Go.RowKit Go.WideMaps Go.Maps
set_option maxRecDepth 100000
set_option maxHeartbeats 4000000
theorem lawK : Keyed Tryz.prog 9 := string_keyed Tryz.underlying9
theorem zero3 (w : World) : (zeroValue 3).run Tryz.prog w = .ok (.int .i64 0) w := by kernel_rfl
/-- The keys and their deeds. -/
def viT : List (ByteArray × Int) := [(⟨#[104]⟩, 1), (⟨#[76, 101, 102, 116]⟩, 1), (⟨#[108]⟩, 2), (⟨#[82, 105, 103, 104, 116]⟩, 2), (⟨#[107]⟩, 3), (⟨#[85, 112]⟩, 3), (⟨#[106]⟩, 4), (⟨#[68, 111, 119, 110]⟩, 4), (⟨#[48]⟩, 5), (⟨#[36]⟩, 6), (⟨#[103]⟩, 7), (⟨#[71]⟩, 8), (⟨#[119]⟩, 9), (⟨#[98]⟩, 10), (⟨#[101]⟩, 19), (⟨#[118]⟩, 11), (⟨#[83, 112, 97, 99, 101]⟩, 11), (⟨#[86]⟩, 12), (⟨#[67, 45, 118]⟩, 13), (⟨#[121]⟩, 14), (⟨#[69, 110, 116, 101, 114]⟩, 14), (⟨#[113]⟩, 15), (⟨#[69, 115, 99, 97, 112, 101]⟩, 15), (⟨#[110]⟩, 16), (⟨#[78]⟩, 17), (⟨#[111]⟩, 18)]
def emT : List (ByteArray × Int) := [(⟨#[67, 45, 98]⟩, 1), (⟨#[76, 101, 102, 116]⟩, 1), (⟨#[67, 45, 102]⟩, 2), (⟨#[82, 105, 103, 104, 116]⟩, 2), (⟨#[67, 45, 112]⟩, 3), (⟨#[85, 112]⟩, 3), (⟨#[67, 45, 110]⟩, 4), (⟨#[68, 111, 119, 110]⟩, 4), (⟨#[67, 45, 97]⟩, 5), (⟨#[67, 45, 101]⟩, 6), (⟨#[77, 45, 60]⟩, 7), (⟨#[77, 45, 62]⟩, 8), (⟨#[77, 45, 102]⟩, 9), (⟨#[77, 45, 98]⟩, 10), (⟨#[67, 45, 83, 112, 97, 99, 101]⟩, 11), (⟨#[82]⟩, 13), (⟨#[77, 45, 119]⟩, 14), (⟨#[113]⟩, 15), (⟨#[67, 45, 103]⟩, 15), (⟨#[110]⟩, 16), (⟨#[78]⟩, 17), (⟨#[67, 45, 120]⟩, 18)]
/-- What was put in. -/
def putsD {H : Type} (D : DataW H) : List (ByteArray × Int) → DataW H
  | [] => D
  | p :: l => putsD (D.put (.string p.1.data.toList) (.lit (.int .i64 p.2))) l
theorem vi_run {H : Type} (w : World) : Calls Tryz.prog 33 #[] w fun e w' => e = .returned (.map (some w.heap.size)) ∧ w'.ownsMap Tryz.prog 9 (plainElem (H := H) Tryz.prog 3) w.heap.size 26 (putsD (.map []) viT) ∧ Below w.heap.size w w' := by
  have hmm := @run_makeMap Tryz.prog
  have h0 := World.ownsMap_made (H := H) w Tryz.prog 9 (plainElem (H := H) Tryz.prog 3)
  have b0 := (Below.refl w.heap.size w).alloc (Nat.le_refl _) (.map #[] 0)
  obtain ⟨w1, r1, h1, g1⟩ := h0.update lawK Tryz.underlying47 (by unfold maxLen; omega) (key := .string ⟨#[104]⟩) (val := .int .i64 1) (keyOf_string_mk Tryz.underlying9 (by decide)) (plainElem_int Tryz.underlying3 (by decide))
  have b1 := b0.grown g1 b0.size (fun j hj => by cases hj; exact Nat.le_refl _)
  obtain ⟨w2, r2, h2, g2⟩ := h1.update lawK Tryz.underlying47 (by unfold maxLen; omega) (key := .string ⟨#[76, 101, 102, 116]⟩) (val := .int .i64 1) (keyOf_string_mk Tryz.underlying9 (by decide)) (plainElem_int Tryz.underlying3 (by decide))
  have b2 := b1.grown g2 b1.size (fun j hj => by cases hj; exact Nat.le_refl _)
  obtain ⟨w3, r3, h3, g3⟩ := h2.update lawK Tryz.underlying47 (by unfold maxLen; omega) (key := .string ⟨#[108]⟩) (val := .int .i64 2) (keyOf_string_mk Tryz.underlying9 (by decide)) (plainElem_int Tryz.underlying3 (by decide))
  have b3 := b2.grown g3 b2.size (fun j hj => by cases hj; exact Nat.le_refl _)
  obtain ⟨w4, r4, h4, g4⟩ := h3.update lawK Tryz.underlying47 (by unfold maxLen; omega) (key := .string ⟨#[82, 105, 103, 104, 116]⟩) (val := .int .i64 2) (keyOf_string_mk Tryz.underlying9 (by decide)) (plainElem_int Tryz.underlying3 (by decide))
  have b4 := b3.grown g4 b3.size (fun j hj => by cases hj; exact Nat.le_refl _)
  obtain ⟨w5, r5, h5, g5⟩ := h4.update lawK Tryz.underlying47 (by unfold maxLen; omega) (key := .string ⟨#[107]⟩) (val := .int .i64 3) (keyOf_string_mk Tryz.underlying9 (by decide)) (plainElem_int Tryz.underlying3 (by decide))
  have b5 := b4.grown g5 b4.size (fun j hj => by cases hj; exact Nat.le_refl _)
  obtain ⟨w6, r6, h6, g6⟩ := h5.update lawK Tryz.underlying47 (by unfold maxLen; omega) (key := .string ⟨#[85, 112]⟩) (val := .int .i64 3) (keyOf_string_mk Tryz.underlying9 (by decide)) (plainElem_int Tryz.underlying3 (by decide))
  have b6 := b5.grown g6 b5.size (fun j hj => by cases hj; exact Nat.le_refl _)
  obtain ⟨w7, r7, h7, g7⟩ := h6.update lawK Tryz.underlying47 (by unfold maxLen; omega) (key := .string ⟨#[106]⟩) (val := .int .i64 4) (keyOf_string_mk Tryz.underlying9 (by decide)) (plainElem_int Tryz.underlying3 (by decide))
  have b7 := b6.grown g7 b6.size (fun j hj => by cases hj; exact Nat.le_refl _)
  obtain ⟨w8, r8, h8, g8⟩ := h7.update lawK Tryz.underlying47 (by unfold maxLen; omega) (key := .string ⟨#[68, 111, 119, 110]⟩) (val := .int .i64 4) (keyOf_string_mk Tryz.underlying9 (by decide)) (plainElem_int Tryz.underlying3 (by decide))
  have b8 := b7.grown g8 b7.size (fun j hj => by cases hj; exact Nat.le_refl _)
  obtain ⟨w9, r9, h9, g9⟩ := h8.update lawK Tryz.underlying47 (by unfold maxLen; omega) (key := .string ⟨#[48]⟩) (val := .int .i64 5) (keyOf_string_mk Tryz.underlying9 (by decide)) (plainElem_int Tryz.underlying3 (by decide))
  have b9 := b8.grown g9 b8.size (fun j hj => by cases hj; exact Nat.le_refl _)
  obtain ⟨w10, r10, h10, g10⟩ := h9.update lawK Tryz.underlying47 (by unfold maxLen; omega) (key := .string ⟨#[36]⟩) (val := .int .i64 6) (keyOf_string_mk Tryz.underlying9 (by decide)) (plainElem_int Tryz.underlying3 (by decide))
  have b10 := b9.grown g10 b9.size (fun j hj => by cases hj; exact Nat.le_refl _)
  obtain ⟨w11, r11, h11, g11⟩ := h10.update lawK Tryz.underlying47 (by unfold maxLen; omega) (key := .string ⟨#[103]⟩) (val := .int .i64 7) (keyOf_string_mk Tryz.underlying9 (by decide)) (plainElem_int Tryz.underlying3 (by decide))
  have b11 := b10.grown g11 b10.size (fun j hj => by cases hj; exact Nat.le_refl _)
  obtain ⟨w12, r12, h12, g12⟩ := h11.update lawK Tryz.underlying47 (by unfold maxLen; omega) (key := .string ⟨#[71]⟩) (val := .int .i64 8) (keyOf_string_mk Tryz.underlying9 (by decide)) (plainElem_int Tryz.underlying3 (by decide))
  have b12 := b11.grown g12 b11.size (fun j hj => by cases hj; exact Nat.le_refl _)
  obtain ⟨w13, r13, h13, g13⟩ := h12.update lawK Tryz.underlying47 (by unfold maxLen; omega) (key := .string ⟨#[119]⟩) (val := .int .i64 9) (keyOf_string_mk Tryz.underlying9 (by decide)) (plainElem_int Tryz.underlying3 (by decide))
  have b13 := b12.grown g13 b12.size (fun j hj => by cases hj; exact Nat.le_refl _)
  obtain ⟨w14, r14, h14, g14⟩ := h13.update lawK Tryz.underlying47 (by unfold maxLen; omega) (key := .string ⟨#[98]⟩) (val := .int .i64 10) (keyOf_string_mk Tryz.underlying9 (by decide)) (plainElem_int Tryz.underlying3 (by decide))
  have b14 := b13.grown g14 b13.size (fun j hj => by cases hj; exact Nat.le_refl _)
  obtain ⟨w15, r15, h15, g15⟩ := h14.update lawK Tryz.underlying47 (by unfold maxLen; omega) (key := .string ⟨#[101]⟩) (val := .int .i64 19) (keyOf_string_mk Tryz.underlying9 (by decide)) (plainElem_int Tryz.underlying3 (by decide))
  have b15 := b14.grown g15 b14.size (fun j hj => by cases hj; exact Nat.le_refl _)
  obtain ⟨w16, r16, h16, g16⟩ := h15.update lawK Tryz.underlying47 (by unfold maxLen; omega) (key := .string ⟨#[118]⟩) (val := .int .i64 11) (keyOf_string_mk Tryz.underlying9 (by decide)) (plainElem_int Tryz.underlying3 (by decide))
  have b16 := b15.grown g16 b15.size (fun j hj => by cases hj; exact Nat.le_refl _)
  obtain ⟨w17, r17, h17, g17⟩ := h16.update lawK Tryz.underlying47 (by unfold maxLen; omega) (key := .string ⟨#[83, 112, 97, 99, 101]⟩) (val := .int .i64 11) (keyOf_string_mk Tryz.underlying9 (by decide)) (plainElem_int Tryz.underlying3 (by decide))
  have b17 := b16.grown g17 b16.size (fun j hj => by cases hj; exact Nat.le_refl _)
  obtain ⟨w18, r18, h18, g18⟩ := h17.update lawK Tryz.underlying47 (by unfold maxLen; omega) (key := .string ⟨#[86]⟩) (val := .int .i64 12) (keyOf_string_mk Tryz.underlying9 (by decide)) (plainElem_int Tryz.underlying3 (by decide))
  have b18 := b17.grown g18 b17.size (fun j hj => by cases hj; exact Nat.le_refl _)
  obtain ⟨w19, r19, h19, g19⟩ := h18.update lawK Tryz.underlying47 (by unfold maxLen; omega) (key := .string ⟨#[67, 45, 118]⟩) (val := .int .i64 13) (keyOf_string_mk Tryz.underlying9 (by decide)) (plainElem_int Tryz.underlying3 (by decide))
  have b19 := b18.grown g19 b18.size (fun j hj => by cases hj; exact Nat.le_refl _)
  obtain ⟨w20, r20, h20, g20⟩ := h19.update lawK Tryz.underlying47 (by unfold maxLen; omega) (key := .string ⟨#[121]⟩) (val := .int .i64 14) (keyOf_string_mk Tryz.underlying9 (by decide)) (plainElem_int Tryz.underlying3 (by decide))
  have b20 := b19.grown g20 b19.size (fun j hj => by cases hj; exact Nat.le_refl _)
  obtain ⟨w21, r21, h21, g21⟩ := h20.update lawK Tryz.underlying47 (by unfold maxLen; omega) (key := .string ⟨#[69, 110, 116, 101, 114]⟩) (val := .int .i64 14) (keyOf_string_mk Tryz.underlying9 (by decide)) (plainElem_int Tryz.underlying3 (by decide))
  have b21 := b20.grown g21 b20.size (fun j hj => by cases hj; exact Nat.le_refl _)
  obtain ⟨w22, r22, h22, g22⟩ := h21.update lawK Tryz.underlying47 (by unfold maxLen; omega) (key := .string ⟨#[113]⟩) (val := .int .i64 15) (keyOf_string_mk Tryz.underlying9 (by decide)) (plainElem_int Tryz.underlying3 (by decide))
  have b22 := b21.grown g22 b21.size (fun j hj => by cases hj; exact Nat.le_refl _)
  obtain ⟨w23, r23, h23, g23⟩ := h22.update lawK Tryz.underlying47 (by unfold maxLen; omega) (key := .string ⟨#[69, 115, 99, 97, 112, 101]⟩) (val := .int .i64 15) (keyOf_string_mk Tryz.underlying9 (by decide)) (plainElem_int Tryz.underlying3 (by decide))
  have b23 := b22.grown g23 b22.size (fun j hj => by cases hj; exact Nat.le_refl _)
  obtain ⟨w24, r24, h24, g24⟩ := h23.update lawK Tryz.underlying47 (by unfold maxLen; omega) (key := .string ⟨#[110]⟩) (val := .int .i64 16) (keyOf_string_mk Tryz.underlying9 (by decide)) (plainElem_int Tryz.underlying3 (by decide))
  have b24 := b23.grown g24 b23.size (fun j hj => by cases hj; exact Nat.le_refl _)
  obtain ⟨w25, r25, h25, g25⟩ := h24.update lawK Tryz.underlying47 (by unfold maxLen; omega) (key := .string ⟨#[78]⟩) (val := .int .i64 17) (keyOf_string_mk Tryz.underlying9 (by decide)) (plainElem_int Tryz.underlying3 (by decide))
  have b25 := b24.grown g25 b24.size (fun j hj => by cases hj; exact Nat.le_refl _)
  obtain ⟨w26, r26, h26, g26⟩ := h25.update lawK Tryz.underlying47 (by unfold maxLen; omega) (key := .string ⟨#[111]⟩) (val := .int .i64 18) (keyOf_string_mk Tryz.underlying9 (by decide)) (plainElem_int Tryz.underlying3 (by decide))
  have b26 := b25.grown g26 b25.size (fun j hj => by cases hj; exact Nat.le_refl _)
  clear h0 g1 b0 h1 g2 b1 h2 g3 b2 h3 g4 b3 h4 g5 b4 h5 g6 b5 h6 g7 b6 h7 g8 b7 h8 g9 b8 h9 g10 b9 h10 g11 b10 h11 g12 b11 h12 g13 b12 h13 g14 b13 h14 g15 b14 h15 g16 b15 h16 g17 b16 h17 g18 b17 h18 g19 b18 h19 g20 b19 h20 g21 b20 h21 g22 b21 h22 g23 b22 h23 g24 b23 h24 g25 b24 h25 g26 b25
  go_enter Tryz.func33, Tryz.ntmps33
  go_wp2
  go_ret
  exact ⟨rfl, h26, b26⟩
theorem emacs_run {H : Type} (w : World) : Calls Tryz.prog 34 #[] w fun e w' => e = .returned (.map (some w.heap.size)) ∧ w'.ownsMap Tryz.prog 9 (plainElem (H := H) Tryz.prog 3) w.heap.size 22 (putsD (.map []) emT) ∧ Below w.heap.size w w' := by
  have hmm := @run_makeMap Tryz.prog
  have h0 := World.ownsMap_made (H := H) w Tryz.prog 9 (plainElem (H := H) Tryz.prog 3)
  have b0 := (Below.refl w.heap.size w).alloc (Nat.le_refl _) (.map #[] 0)
  obtain ⟨w1, r1, h1, g1⟩ := h0.update lawK Tryz.underlying47 (by unfold maxLen; omega) (key := .string ⟨#[67, 45, 98]⟩) (val := .int .i64 1) (keyOf_string_mk Tryz.underlying9 (by decide)) (plainElem_int Tryz.underlying3 (by decide))
  have b1 := b0.grown g1 b0.size (fun j hj => by cases hj; exact Nat.le_refl _)
  obtain ⟨w2, r2, h2, g2⟩ := h1.update lawK Tryz.underlying47 (by unfold maxLen; omega) (key := .string ⟨#[76, 101, 102, 116]⟩) (val := .int .i64 1) (keyOf_string_mk Tryz.underlying9 (by decide)) (plainElem_int Tryz.underlying3 (by decide))
  have b2 := b1.grown g2 b1.size (fun j hj => by cases hj; exact Nat.le_refl _)
  obtain ⟨w3, r3, h3, g3⟩ := h2.update lawK Tryz.underlying47 (by unfold maxLen; omega) (key := .string ⟨#[67, 45, 102]⟩) (val := .int .i64 2) (keyOf_string_mk Tryz.underlying9 (by decide)) (plainElem_int Tryz.underlying3 (by decide))
  have b3 := b2.grown g3 b2.size (fun j hj => by cases hj; exact Nat.le_refl _)
  obtain ⟨w4, r4, h4, g4⟩ := h3.update lawK Tryz.underlying47 (by unfold maxLen; omega) (key := .string ⟨#[82, 105, 103, 104, 116]⟩) (val := .int .i64 2) (keyOf_string_mk Tryz.underlying9 (by decide)) (plainElem_int Tryz.underlying3 (by decide))
  have b4 := b3.grown g4 b3.size (fun j hj => by cases hj; exact Nat.le_refl _)
  obtain ⟨w5, r5, h5, g5⟩ := h4.update lawK Tryz.underlying47 (by unfold maxLen; omega) (key := .string ⟨#[67, 45, 112]⟩) (val := .int .i64 3) (keyOf_string_mk Tryz.underlying9 (by decide)) (plainElem_int Tryz.underlying3 (by decide))
  have b5 := b4.grown g5 b4.size (fun j hj => by cases hj; exact Nat.le_refl _)
  obtain ⟨w6, r6, h6, g6⟩ := h5.update lawK Tryz.underlying47 (by unfold maxLen; omega) (key := .string ⟨#[85, 112]⟩) (val := .int .i64 3) (keyOf_string_mk Tryz.underlying9 (by decide)) (plainElem_int Tryz.underlying3 (by decide))
  have b6 := b5.grown g6 b5.size (fun j hj => by cases hj; exact Nat.le_refl _)
  obtain ⟨w7, r7, h7, g7⟩ := h6.update lawK Tryz.underlying47 (by unfold maxLen; omega) (key := .string ⟨#[67, 45, 110]⟩) (val := .int .i64 4) (keyOf_string_mk Tryz.underlying9 (by decide)) (plainElem_int Tryz.underlying3 (by decide))
  have b7 := b6.grown g7 b6.size (fun j hj => by cases hj; exact Nat.le_refl _)
  obtain ⟨w8, r8, h8, g8⟩ := h7.update lawK Tryz.underlying47 (by unfold maxLen; omega) (key := .string ⟨#[68, 111, 119, 110]⟩) (val := .int .i64 4) (keyOf_string_mk Tryz.underlying9 (by decide)) (plainElem_int Tryz.underlying3 (by decide))
  have b8 := b7.grown g8 b7.size (fun j hj => by cases hj; exact Nat.le_refl _)
  obtain ⟨w9, r9, h9, g9⟩ := h8.update lawK Tryz.underlying47 (by unfold maxLen; omega) (key := .string ⟨#[67, 45, 97]⟩) (val := .int .i64 5) (keyOf_string_mk Tryz.underlying9 (by decide)) (plainElem_int Tryz.underlying3 (by decide))
  have b9 := b8.grown g9 b8.size (fun j hj => by cases hj; exact Nat.le_refl _)
  obtain ⟨w10, r10, h10, g10⟩ := h9.update lawK Tryz.underlying47 (by unfold maxLen; omega) (key := .string ⟨#[67, 45, 101]⟩) (val := .int .i64 6) (keyOf_string_mk Tryz.underlying9 (by decide)) (plainElem_int Tryz.underlying3 (by decide))
  have b10 := b9.grown g10 b9.size (fun j hj => by cases hj; exact Nat.le_refl _)
  obtain ⟨w11, r11, h11, g11⟩ := h10.update lawK Tryz.underlying47 (by unfold maxLen; omega) (key := .string ⟨#[77, 45, 60]⟩) (val := .int .i64 7) (keyOf_string_mk Tryz.underlying9 (by decide)) (plainElem_int Tryz.underlying3 (by decide))
  have b11 := b10.grown g11 b10.size (fun j hj => by cases hj; exact Nat.le_refl _)
  obtain ⟨w12, r12, h12, g12⟩ := h11.update lawK Tryz.underlying47 (by unfold maxLen; omega) (key := .string ⟨#[77, 45, 62]⟩) (val := .int .i64 8) (keyOf_string_mk Tryz.underlying9 (by decide)) (plainElem_int Tryz.underlying3 (by decide))
  have b12 := b11.grown g12 b11.size (fun j hj => by cases hj; exact Nat.le_refl _)
  obtain ⟨w13, r13, h13, g13⟩ := h12.update lawK Tryz.underlying47 (by unfold maxLen; omega) (key := .string ⟨#[77, 45, 102]⟩) (val := .int .i64 9) (keyOf_string_mk Tryz.underlying9 (by decide)) (plainElem_int Tryz.underlying3 (by decide))
  have b13 := b12.grown g13 b12.size (fun j hj => by cases hj; exact Nat.le_refl _)
  obtain ⟨w14, r14, h14, g14⟩ := h13.update lawK Tryz.underlying47 (by unfold maxLen; omega) (key := .string ⟨#[77, 45, 98]⟩) (val := .int .i64 10) (keyOf_string_mk Tryz.underlying9 (by decide)) (plainElem_int Tryz.underlying3 (by decide))
  have b14 := b13.grown g14 b13.size (fun j hj => by cases hj; exact Nat.le_refl _)
  obtain ⟨w15, r15, h15, g15⟩ := h14.update lawK Tryz.underlying47 (by unfold maxLen; omega) (key := .string ⟨#[67, 45, 83, 112, 97, 99, 101]⟩) (val := .int .i64 11) (keyOf_string_mk Tryz.underlying9 (by decide)) (plainElem_int Tryz.underlying3 (by decide))
  have b15 := b14.grown g15 b14.size (fun j hj => by cases hj; exact Nat.le_refl _)
  obtain ⟨w16, r16, h16, g16⟩ := h15.update lawK Tryz.underlying47 (by unfold maxLen; omega) (key := .string ⟨#[82]⟩) (val := .int .i64 13) (keyOf_string_mk Tryz.underlying9 (by decide)) (plainElem_int Tryz.underlying3 (by decide))
  have b16 := b15.grown g16 b15.size (fun j hj => by cases hj; exact Nat.le_refl _)
  obtain ⟨w17, r17, h17, g17⟩ := h16.update lawK Tryz.underlying47 (by unfold maxLen; omega) (key := .string ⟨#[77, 45, 119]⟩) (val := .int .i64 14) (keyOf_string_mk Tryz.underlying9 (by decide)) (plainElem_int Tryz.underlying3 (by decide))
  have b17 := b16.grown g17 b16.size (fun j hj => by cases hj; exact Nat.le_refl _)
  obtain ⟨w18, r18, h18, g18⟩ := h17.update lawK Tryz.underlying47 (by unfold maxLen; omega) (key := .string ⟨#[113]⟩) (val := .int .i64 15) (keyOf_string_mk Tryz.underlying9 (by decide)) (plainElem_int Tryz.underlying3 (by decide))
  have b18 := b17.grown g18 b17.size (fun j hj => by cases hj; exact Nat.le_refl _)
  obtain ⟨w19, r19, h19, g19⟩ := h18.update lawK Tryz.underlying47 (by unfold maxLen; omega) (key := .string ⟨#[67, 45, 103]⟩) (val := .int .i64 15) (keyOf_string_mk Tryz.underlying9 (by decide)) (plainElem_int Tryz.underlying3 (by decide))
  have b19 := b18.grown g19 b18.size (fun j hj => by cases hj; exact Nat.le_refl _)
  obtain ⟨w20, r20, h20, g20⟩ := h19.update lawK Tryz.underlying47 (by unfold maxLen; omega) (key := .string ⟨#[110]⟩) (val := .int .i64 16) (keyOf_string_mk Tryz.underlying9 (by decide)) (plainElem_int Tryz.underlying3 (by decide))
  have b20 := b19.grown g20 b19.size (fun j hj => by cases hj; exact Nat.le_refl _)
  obtain ⟨w21, r21, h21, g21⟩ := h20.update lawK Tryz.underlying47 (by unfold maxLen; omega) (key := .string ⟨#[78]⟩) (val := .int .i64 17) (keyOf_string_mk Tryz.underlying9 (by decide)) (plainElem_int Tryz.underlying3 (by decide))
  have b21 := b20.grown g21 b20.size (fun j hj => by cases hj; exact Nat.le_refl _)
  obtain ⟨w22, r22, h22, g22⟩ := h21.update lawK Tryz.underlying47 (by unfold maxLen; omega) (key := .string ⟨#[67, 45, 120]⟩) (val := .int .i64 18) (keyOf_string_mk Tryz.underlying9 (by decide)) (plainElem_int Tryz.underlying3 (by decide))
  have b22 := b21.grown g22 b21.size (fun j hj => by cases hj; exact Nat.le_refl _)
  clear h0 g1 b0 h1 g2 b1 h2 g3 b2 h3 g4 b3 h4 g5 b4 h5 g6 b5 h6 g7 b6 h7 g8 b7 h8 g9 b8 h9 g10 b9 h10 g11 b10 h11 g12 b11 h12 g13 b12 h13 g14 b13 h14 g15 b14 h15 g16 b15 h16 g17 b16 h17 g18 b17 h18 g19 b18 h19 g20 b19 h20 g21 b20 h21 g22 b21
  go_enter Tryz.func34, Tryz.ntmps34
  go_wp2
  go_ret
  exact ⟨rfl, h22, b22⟩
end Go.Am
