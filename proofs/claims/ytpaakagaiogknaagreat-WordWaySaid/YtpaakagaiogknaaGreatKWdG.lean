
/- Words: what came in, the laws joined. -/
import Derived.Test.YtpaakagaiogknaaGreatKWdF
import Derived.Test.YtpaakagaiogknaaGreatKLinW
import Derived.Test.YtpaakagaiogknaaGreatKBek
set_option linter.all false
set_option linter.deprecated false
namespace Go.Am
variable {oc : Orc} [OrcI oc]
open Go.Proofs
set_option maxRecDepth 100000
set_option maxHeartbeats 4000000
theorem wd_linesE {d : Nat} {es : List (List AV)} (h : ∀ c ∈ es, Wd Tryz.prog (d + 3) 33 c) : ∃ ls, LsB es ls := by
  induction es with
  | nil => exact ⟨[], rfl, fun j h => absurd h (Nat.not_lt_zero _)⟩
  | cons c r ih =>
    obtain ⟨A, l, rfl, hA, hl, hr⟩ := wd_cellsS (h c List.mem_cons_self)
    obtain ⟨ls, h1, h2⟩ := ih fun c hc => h c (List.mem_cons_of_mem _ hc)
    refine ⟨l :: ls, by simp [h1], fun j hj => ?_⟩
    cases j with
    | zero => exact ⟨rfl, hA, hl, hr⟩
    | succ j => exact h2 j (by simpa using hj)
theorem wd_linesS {d : Nat} {u : List AV} (h : Wd Tryz.prog (d + 4) 22 u) : ∃ (L : AV) (es : List (List AV)) (ls : List (List Ce)), u = [L] ∧ Sl 1 L es ∧ es.length < 2 ^ 63 ∧ LsB es ls := by
  unfold Wd at h
  rw [Tryz.underlying22] at h
  obtain ⟨x, es, rfl, hs, hlen, he⟩ := h
  have hc3 : Tryz.prog.cellsOf 33 = 1 := by kernel_rfl
  rw [hc3] at hs
  obtain ⟨ls, hr⟩ := wd_linesE he
  exact ⟨x, es, ls, rfl, hs, by unfold maxLen at hlen; omega, hr⟩
theorem wd_spot {d : Nat} {u : List AV} (h : Wd Tryz.prog (d + 2) 24 u) : ∃ a b c : Int, u = [.v (.int .i64 a), .v (.int .i64 b), .v (.int .i64 c)] := by
  unfold Wd at h
  rw [Tryz.underlying24] at h
  obtain ⟨parts, rfl, hl, hp⟩ := h
  match parts, hl with
  | [p0, p1, p2], _ =>
    have h0 := hp 0 _ p0 rfl rfl
    have h1 := hp 1 _ p1 rfl rfl
    have h2 := hp 2 _ p2 rfl rfl
    simp only [Wd, Tryz.underlying3] at h0 h1 h2
    obtain ⟨r, rfl, _⟩ := h0
    obtain ⟨c, rfl, _⟩ := h1
    obtain ⟨e, rfl, _⟩ := h2
    exact ⟨r, c, e, rfl⟩
theorem WordAll_run (v : List AV) (hv : Wd Tryz.prog 6 22 v) (s : List AV) (hs : Wd Tryz.prog 6 24 s) (c : List AV) (hc : Wd Tryz.prog 6 26 c) : WC EF [] 0 3 [v.getD 0 .dead, .agg s, .agg c] .empty fun x _ => x = .v (.bool true) := by
  obtain ⟨L, es, ls, rfl, hL, hlen, hE⟩ := wd_linesS (d := 2) hv
  obtain ⟨x, y, z, rfl⟩ := wd_spot (d := 4) hs
  obtain ⟨ce, rfl, _⟩ := wd_cell (d := 4) hc
  exact WordAll_law (fun ys lo H => begun_F) hL hE hlen x y z ce.r ce.w ce.a
theorem WordWay_run (v : List AV) (hv : Wd Tryz.prog 6 22 v) : WC EF [] 0 4 [v.getD 0 .dead] .empty fun x _ => x = .v (.bool true) := by
  obtain ⟨L, es, ls, rfl, hL, hlen, hE⟩ := wd_linesS (d := 2) hv
  exact WordWay_law (fun ys lo H => begun_F) hL hE hlen
theorem WordEnds_run (v : List AV) (hv : Wd Tryz.prog 6 22 v) (s : List AV) (hs : Wd Tryz.prog 6 24 s) : WC EF [] 0 5 [v.getD 0 .dead, .agg s] .empty fun x _ => x = .v (.bool true) := by
  obtain ⟨L, es, ls, rfl, hL, hlen, hE⟩ := wd_linesS (d := 2) hv
  obtain ⟨x, y, z, rfl⟩ := wd_spot (d := 4) hs
  exact WordEnds_law (fun ys lo H => begun_F) hL hE hlen x y z
end Go.Am
