/- A key's deed: the program's. -/
import Derived.Test.YtpaakagaiogknaaGreatKwA
import Derived.Maps.OwnSet
set_option linter.all false
set_option linter.deprecated false
set_option linter.all false
namespace Go.Am
open Go.Proofs Go.RowKit Go.WideMaps Go.Maps
set_option maxRecDepth 100000
set_option maxHeartbeats 4000000
theorem all_vi {H : Type} (w : World) : Calls Tryz.prog 27 #[.int .i64 1] w fun e w' => e = .returned (.map (some w.heap.size)) ∧ w'.ownsMap Tryz.prog 9 (plainElem (H := H) Tryz.prog 3) w.heap.size 26 (putsD (.map []) viT) ∧ Below w.heap.size w w' := by
  go_enter Tryz.func27, Tryz.ntmps27
  go_wp2_with (go_at_call 33; refine (vi_run (H := H) w).mono ?_; rintro e w' ⟨rfl, hown, hb⟩)
  go_ret
  exact ⟨rfl, hown, hb⟩
theorem all_emacs {H : Type} (w : World) : Calls Tryz.prog 27 #[.int .i64 2] w fun e w' => e = .returned (.map (some w.heap.size)) ∧ w'.ownsMap Tryz.prog 9 (plainElem (H := H) Tryz.prog 3) w.heap.size 22 (putsD (.map []) emT) ∧ Below w.heap.size w w' := by
  go_enter Tryz.func27, Tryz.ntmps27
  go_wp2_with (go_at_call 34; refine (emacs_run (H := H) w).mono ?_; rintro e w' ⟨rfl, hown, hb⟩)
  go_ret
  exact ⟨rfl, hown, hb⟩
theorem all_none (t : Int) (h1 : t ≠ 1) (h2 : t ≠ 2) (w : World) : Calls Tryz.prog 27 #[.int .i64 t] w fun e w' => e = .returned (.map none) ∧ w' = w := by
  go_enter Tryz.func27, Tryz.ntmps27
  go_wp2
  all_goals first
    | (go_ret; exact ⟨rfl, rfl⟩)
    | trace_state
/-- What a table has for a key. -/
def atT (D : DataW Unit) (s : ByteArray) : DataW Unit := D.atKey (.string s.data.toList) (.lit (.int .i64 0))
theorem Deed_vi (s : ByteArray) (hs : s.size ≤ maxLen) (w : World) : Calls Tryz.prog 16 #[.int .i64 1, .string s] w fun e w' => ∃ c, e = .returned (.int .i64 c) ∧ atT (putsD (.map []) viT) s = .lit (.int .i64 c) ∧ Below w.heap.size w w' := by
  go_enter Tryz.func16, Tryz.ntmps16
  have hk := keyOf_string_mk Tryz.underlying9 hs
  go_wp2_with (first
    | (go_at_call 27; refine (all_vi (H := Unit) w).mono ?_; rintro e w' ⟨rfl, hown, hb⟩; obtain ⟨c, hrun, hat, hwf⟩ := hown.lookup_int lawK Tryz.underlying47 Tryz.underlying3 (zero3 _) hk))
  go_ret
  exact ⟨c, rfl, hat, hb⟩
theorem Deed_emacs (s : ByteArray) (hs : s.size ≤ maxLen) (w : World) : Calls Tryz.prog 16 #[.int .i64 2, .string s] w fun e w' => ∃ c, e = .returned (.int .i64 c) ∧ atT (putsD (.map []) emT) s = .lit (.int .i64 c) ∧ Below w.heap.size w w' := by
  go_enter Tryz.func16, Tryz.ntmps16
  have hk := keyOf_string_mk Tryz.underlying9 hs
  go_wp2_with (first
    | (go_at_call 27; refine (all_emacs (H := Unit) w).mono ?_; rintro e w' ⟨rfl, hown, hb⟩; obtain ⟨c, hrun, hat, hwf⟩ := hown.lookup_int lawK Tryz.underlying47 Tryz.underlying3 (zero3 _) hk))
  go_ret
  exact ⟨c, rfl, hat, hb⟩
theorem Deed_none (t : Int) (h1 : t ≠ 1) (h2 : t ≠ 2) (s : ByteArray) (hs : s.size ≤ maxLen) (w : World) : Calls Tryz.prog 16 #[.int .i64 t, .string s] w fun e w' => e = .returned (.int .i64 0) ∧ Below w.heap.size w w' := by
  go_enter Tryz.func16, Tryz.ntmps16
  have hz := Maps.look_nil (w := w) false lawK Tryz.underlying47 (zero3 w) (keyOf_string_mk Tryz.underlying9 hs)
  simp only [Bool.false_eq_true, if_false] at hz
  go_wp2_with (first
    | (go_at_call 27; refine (all_none t h1 h2 w).mono ?_; rintro e w' ⟨rfl, rfl⟩))
  all_goals first
    | (go_ret; exact ⟨rfl, Below.refl _ _⟩)
    | trace_state
end Go.Am
