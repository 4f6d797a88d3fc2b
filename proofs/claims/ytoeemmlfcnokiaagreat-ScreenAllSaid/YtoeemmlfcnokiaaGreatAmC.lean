/- From a run of the machine to a claim's walk. -/
import Derived.Test.YtoeemmlfcnokiaaGreatAmU
import Derived.Below
import Derived.OpenShut
set_option linter.all false
set_option linter.deprecated false
namespace Go.Am
open Go.ChangeShapes Go.WideShapes Go.RowKit

theorem law_calls {E : Env} (hE : ProgOK E) {f : FuncId} {args : List AV} {w : World} {vs : Array Value} (hr : WC E [] 0 f args .empty fun x _ => x = .v (.bool true))
    (ha : vs.size = args.length ∧ ∀ i, i < args.length → FR w (fun _ => False) (args.getD i .dead) (vs.getD i undef)) :
    Calls E.P f vs w fun e w' => e = .returned (.bool true) ∧ Below w.heap.size w w' := by
  obtain ⟨n, r, H', h1, rfl⟩ := hr
  refine (calls_of_acall (lo := 0) hE h1 ha).mono ?_
  rintro e w' ⟨v, rfl, h2, h3, h4, h5, h6, C, hw, _, _, hv⟩
  refine ⟨?_, h2, h3, h4, h5, h6⟩
  cases hv with
  | fr h => cases h with | v h => rfl
/-- A slice of numbers that came in. -/
theorem fr_nums {w : World} {κ : IntKind} {a : Option Addr} {len cap : Nat} {zs : List Int} (h : (a = none ∧ len = 0 ∧ cap = 0 ∧ zs = []) ∨
    ∃ x, a = some x ∧ len ≤ cap ∧ cap ≤ maxLen ∧ zs.length = cap ∧ (∀ i, i < zs.length → w.cell? (x.add i) = some (.int κ (zs.getD i 0))) ∧ ∀ n ∈ zs, (Lit.int κ n).wf = true) :
    ∃ A, Sl 1 A ((zs.take len).map fun i => [.v (.int κ i)]) ∧ FR w (fun _ => False) A (.slice a len cap) := by
  rcases h with ⟨rfl, rfl, rfl, rfl⟩ | ⟨x, rfl, h1, h2, h3, h4, h5⟩
  · exact ⟨.v (.slice none 0 0), .inr ⟨rfl, .inr rfl⟩, .v rfl⟩
  · refine ⟨.sl 1 ((zs.take len).map fun i => [.v (.int κ i)]), .inl rfl, ?_⟩
    have hl : ((zs.take len).map fun i => ([.v (.int κ i)] : List AV)).length = len := by simp; omega
    rcases Nat.eq_zero_or_pos len with rfl | hp
    · refine FR.sl x 0 0 cap (fun _ _ => .nilFunc) ?_ ?_ h2 ?_ ?_ ?_ ?_ <;> simp
    · have hb := h4 0 (by omega)
      obtain ⟨b, o, third⟩ := x
      have ht : third = none := by simpa [Addr.add] using World.cell?_spot hb
      subst ht
      have hc : ∀ j, j < zs.length → w.cell? ⟨b, o + j, none⟩ = some (.int κ (zs.getD j 0)) := fun j hj => by rw [← Go.WideShapes.add_plain]; exact h4 j hj
      have := FR.sl (w := w) (av := fun _ => False) (sz := 1) (es := (zs.take len).map fun i => ([.v (.int κ i)] : List AV)) ⟨b, o, none⟩ b o cap (fun i _ => .int κ (zs.getD i 0))
      rw [hl] at this
      have hg : ∀ i, i < len → ((zs.take len).map fun i => ([.v (.int κ i)] : List AV)).getD i [] = [.v (.int κ (zs.getD i 0))] := by
        intro i hi
        rw [List.getD_eq_getElem?_getD, List.getElem?_map, List.getElem?_take_of_lt hi, List.getD_eq_getElem?_getD, List.getElem?_eq_getElem (by omega)]; rfl
      refine this (fun _ => ⟨rfl, Nat.one_pos, fun h => h⟩) h1 h2 (fun i hi => by rw [hg i hi]; rfl) (fun i j hi hj => ?_) (fun i j hi hj => rfl) (fun i j hi hj => ?_)
      · obtain rfl : j = 0 := by omega
        rw [Nat.mul_one, Nat.add_zero]
        exact hc i (by omega)
      · obtain rfl : j = 0 := by omega
        rw [hg i hi]
        exact .v rfl
theorem range_i32 {zs : List Int} (h : ∀ n ∈ zs, (Lit.int .i32 n).wf = true) (len : Nat) : ∀ c ∈ zs.take len, -2147483648 ≤ c ∧ c ≤ 2147483647 := fun c hc => by
  have := h c (List.mem_of_mem_take hc)
  simp [Lit.wf, IntKind.min, IntKind.max, IntKind.signed, IntKind.bits] at this
  omega
end Go.Am
