/- Parts of the proof: RLnK RLnG. -/
import Derived.Test.YtmcimfmibpfnhaaGreatRLnJ
import Derived.Test.YtmcimfmibpfnhaaGreatRLinG
import Derived.Test.YtmcimfmibpfnhaaGreatRLinB
import Derived.Test.YtmcimfmibpfnhaaGreatRLnP
set_option linter.all false
set_option linter.deprecated false

namespace Go.Am
variable {oc : Orc} [OrcI oc]
open Go.Proofs
set_option maxRecDepth 8000
set_option maxHeartbeats 8000000

/-- Rows under way, each cell slice growing by itself. -/
structure RowsN (H : AHeap) (base n e L : Nat) (esr : List (List AV)) (rows : List Rw) : Prop where
  bn : base ≤ n
  nn : n < H.next
  gn : H.get n = some ⟨48, 2, e, esr, none⟩
  ns : Nest H base (.os n e 0 L) esr (rows.map Prod.fst)
  ll : L = rows.length
  fl : ∀ j, j < rows.length → nth [] esr j = [bOf esr j, .v (.bool (rows.getD j noRw).2)]
theorem fst_getD (rows : List Rw) (k : Nat) (hk : k < rows.length) : (rows.map Prod.fst).getD k [] = (rows.getD k noRw).1 := by
  rw [List.getD_eq_getElem?_getD, List.getElem?_map, List.getElem?_eq_getElem hk, List.getD_eq_getElem?_getD, List.getElem?_eq_getElem hk]; rfl
section
variable {H : AHeap} {base n e L : Nat} {esr : List (List AV)} {rows : List Rw}
theorem RowsN.el (h : RowsN H base n e L esr rows) : esr.length = L := by have := h.ns.len; rw [List.length_map] at this; rw [h.ll]; exact this
theorem RowsN.sl (h : RowsN H base n e L esr rows) (k : Nat) (hk : k < rows.length) : SlH H 3 (bOf esr k) (cesA (rows.getD k noRw).1) := by
  have := (h.ns.ow k (by rw [List.length_map]; exact hk)).slh
  rwa [fst_getD rows k hk] at this

/-- One cell more. -/
theorem RowsN.grow (lo : Nat) (h : RowsN H base n e L esr rows) (k : Nat) (hk : k < rows.length) (hlo : lo ≤ base) (hbn : base ≤ H.next) (hr : (rows.getD k noRw).1.length < 2 ^ 20) (c : Ce) : ∃ A' H3 tr3 Ha esr', primL lo (H.push ⟨52, 3, 0, [ceA c], none⟩) (appendA (ELo oc) 41 (bOf esr k) (.os H.next 0 0 1)) = some (A', H3, tr3) ∧ H3.get n = some ⟨48, 2, e, esr, none⟩ ∧ cellsOf A' = some [A'] ∧ H3.set n ⟨48, 2, e, esr.set k [A', .v (.bool (rows.getD k noRw).2)], none⟩ = Ha ∧ RowsN Ha base n e L esr' (rows.set k ((rows.getD k noRw).1 ++ [c], (rows.getD k noRw).2)) ∧ H.next ≤ Ha.next ∧ ∀ j, j < base → Ha.get j = H.get j := by
  have hk' : k < (rows.map Prod.fst).length := by rw [List.length_map]; exact hk
  have hel := h.el
  have hg := fst_getD rows k hk
  have hL := h.ll
  obtain ⟨A', H3, tr3, h1, h2, h3, h4, h5⟩ := h.ns.grow1 lo k hk' hlo hbn (by rw [hg]; exact hr) c
  have hbn2 := h.bn
  have hnn := h.nn
  have g3 : H3.get n = some ⟨48, 2, e, esr, none⟩ := by rw [h4 n h.nn (fun z => h.ns.nx k hk' n z ⟨_, _, _, rfl⟩)]; exact h.gn
  refine ⟨A', H3, tr3, _, esr.set k [A', .v (.bool (rows.getD k noRw).2)], h1, g3, h2.cells, rfl, ?_, by rw [next_set]; omega, fun j hj => by rw [get_set, if_neg (by omega), h4 j (by omega) (fun z => by have := ((h.ns.ow k hk').nm z).1; omega)]⟩
  refine ⟨h.bn, by rw [next_set]; omega, by rw [get_set, if_pos rfl], ?_, by rw [List.length_set]; exact h.ll, fun j hj => ?_⟩
  · have e1 : (rows.set k ((rows.getD k noRw).1 ++ [c], (rows.getD k noRw).2)).map Prod.fst = (rows.map Prod.fst).set k ((rows.map Prod.fst).getD k [] ++ [c]) := by rw [List.map_set, hg]
    rw [e1]
    exact h.ns.put k hk' (c := [A', .v (.bool (rows.getD k noRw).2)]) (by rw [next_set]; omega) (h2.onN (by rw [next_set]; exact Nat.le_refl _) (fun j hj => by
      have hne : n ≠ j := fun z => by
        rcases h5 j hj with y | y
        · exact h.ns.nx k hk' j y ⟨_, _, _, by rw [z]⟩
        · omega
      rw [get_set, if_neg hne])) (fun j h1 h2 h3 h6 => by rw [get_set, if_neg (fun z => h3 ⟨_, _, _, by rw [z]⟩), h4 j h2 h6]) h5 (fun j hj => by
      obtain ⟨_, _, _, e⟩ := hj
      cases e; exact h.nn)
  · rw [List.length_set] at hj
    rw [getD_setN rows _ _ _ _ hj, bOf_set _ _ _ _ (by omega), nth_getD, getD_setN _ _ _ _ _ (by omega)]
    by_cases q : j = k
    · rw [if_pos q, if_pos q, if_pos q]; rfl
    · rw [if_neg q, if_neg q, if_neg q, ← nth_getD]; exact h.fl j hj

/-- A row wraps. -/
theorem RowsN.wrap (h : RowsN H base n e L esr rows) (k : Nat) (hk : k < rows.length) : ∃ Ha esr', H.set n ⟨48, 2, e, esr.set k [bOf esr k, .v (.bool true)], none⟩ = Ha ∧ RowsN Ha base n e L esr' (rows.set k ((rows.getD k noRw).1, true)) ∧ H.next ≤ Ha.next ∧ ∀ j, j < base → Ha.get j = H.get j := by
  have hk' : k < (rows.map Prod.fst).length := by rw [List.length_map]; exact hk
  have hel := h.el
  have hg := fst_getD rows k hk
  have hL := h.ll
  have hbn2 := h.bn
  have hnn := h.nn
  refine ⟨_, esr.set k [bOf esr k, .v (.bool true)], rfl, ?_, by rw [next_set]; exact Nat.le_refl _, fun j hj => by rw [get_set, if_neg (by omega)]⟩
  refine ⟨h.bn, by rw [next_set]; omega, by rw [get_set, if_pos rfl], ?_, by rw [List.length_set]; exact h.ll, fun j hj => ?_⟩
  · have e1 : (rows.set k ((rows.getD k noRw).1, true)).map Prod.fst = (rows.map Prod.fst).set k ((rows.map Prod.fst).getD k []) := by rw [List.map_set, hg]
    rw [e1]
    exact h.ns.put k hk' (c := [bOf esr k, .v (.bool true)]) (by rw [next_set]; exact Nat.le_refl _) ((h.ns.ow k hk').onN (by rw [next_set]; exact Nat.le_refl _) (fun j hj => by
      have hne : n ≠ j := fun z => h.ns.nx k hk' j hj ⟨_, _, _, by rw [z]⟩
      rw [get_set, if_neg hne])) (fun j h1 h2 h3 h6 => by rw [get_set, if_neg (fun z => h3 ⟨_, _, _, by rw [z]⟩)]) (fun j hj => .inl hj) (fun j hj => by
      obtain ⟨_, _, _, e⟩ := hj
      cases e; exact h.nn)
  · rw [List.length_set] at hj
    rw [getD_setN rows _ _ _ _ hj, bOf_set _ _ _ _ (by omega), nth_getD, getD_setN _ _ _ _ _ (by omega)]
    by_cases q : j = k
    · rw [if_pos q, if_pos q, if_pos q]; rfl
    · rw [if_neg q, if_neg q, if_neg q, ← nth_getD]; exact h.fl j hj

/-- A row more. -/
theorem RowsN.row (lo : Nat) (h : RowsN H base n e L esr rows) (hlo : lo ≤ base) (hL : L < 2 ^ 20) : ∃ Ha esr' tr, primL lo (H.push ⟨48, 2, 0, [[.v (.slice none 0 0), .v (.bool false)]], none⟩) (appendA (ELo oc) 22 (.os n e 0 L) (.os H.next 0 0 1)) = some (.os n (e + 1) 0 (L + 1), Ha, tr) ∧ RowsN Ha base n (e + 1) (L + 1) esr' (rows ++ [([], false)]) ∧ H.next ≤ Ha.next ∧ ∀ j, j < base → Ha.get j = H.get j := by
  have hel := h.el
  have hnn := h.nn
  have hbn2 := h.bn
  have hL2 := h.ll
  refine ⟨_, esr ++ [[.v (.slice none 0 0), .v (.bool false)]], _, app_one_os (ELo oc) lo app_row' h.gn h.nn hel.symm (by omega) (by unfold roomMax; omega) _, ?_, by rw [next_set, next_push]; omega, fun j hj => by rw [get_set, if_neg (by omega), get_push, if_neg (by omega)]⟩
  refine ⟨h.bn, by rw [next_set, next_push]; omega, by rw [get_set, if_pos rfl], ?_, by rw [List.length_append, ← hL2]; rfl, fun j hj => ?_⟩
  · have e1 : (rows ++ [([], false)] : List Rw).map Prod.fst = rows.map Prod.fst ++ [[]] := by rw [List.map_append]; rfl
    rw [e1]
    refine (h.ns.on (x' := .os n (e + 1) 0 (L + 1)) (by rw [next_set, next_push]; omega) (fun k h1 h2 h3 => by
      rw [get_set, if_neg (fun z => h3 ⟨_, _, _, by rw [z]⟩), get_push, if_neg (by omega)]) (fun k hk => by
      obtain ⟨_, _, _, e⟩ := hk
      cases e; exact .inl ⟨_, _, _, rfl⟩)).add (OwS.nil _ _ _ _) (fun k hk => by obtain ⟨_, _, _, e⟩ := hk; cases e)
  · rw [List.length_append, List.length_singleton] at hj
    have hr : rows.length = esr.length := by omega
    rw [getD_app1, bOf_add, nth_app1]
    by_cases q : j < rows.length
    · rw [if_pos q, if_pos (by omega), if_pos (by omega)]; exact h.fl j q
    · simp only [if_neg q, if_neg (show ¬ j < esr.length by omega), if_pos (show j = rows.length by omega), if_pos (show j = esr.length by omega)]; rfl
theorem RowsN.init (H : AHeap) : RowsN (H.push ⟨48, 2, 0, [[.v (.slice none 0 0), .v (.bool false)]], none⟩) H.next H.next 0 1 [[.v (.slice none 0 0), .v (.bool false)]] [([], false)] := by
  refine ⟨Nat.le_refl _, by rw [next_push]; omega, by rw [get_push, if_pos rfl], ⟨rfl, fun j hj => ?_, fun j hj k hk => ?_, fun i j hi hj hij => ?_⟩, rfl, fun j hj => ?_⟩
  · obtain rfl : j = 0 := Nat.lt_one_iff.1 hj
    exact OwS.nil _ _ _ _
  · obtain rfl : j = 0 := Nat.lt_one_iff.1 hj
    obtain ⟨_, _, _, hk⟩ := hk; cases hk
  · exact absurd ((Nat.lt_one_iff.1 hi).trans (Nat.lt_one_iff.1 hj).symm) hij
  · obtain rfl : j = 0 := Nat.lt_one_iff.1 hj
    rfl
theorem getD_last {α : Type} {d : α} (l : List α) (c : α) (k : Nat) (h : k = l.length) : (l ++ [c]).getD k d = c := by
  rw [getD_app1, if_neg (by omega), if_pos h]
theorem RowsN.lv {lo : Nat} (h : RowsN H base n e L esr rows) (hb : lo ≤ base) : RowsLv H lo esr rows := by
  refine ⟨by rw [h.el, h.ll], fun j hj => ⟨bOf esr j, h.fl j hj, h.sl j hj, fun k hk => ?_⟩⟩
  rcases h.ns.ow j (by rw [List.length_map]; exact hj) with ⟨_, y | y⟩ | ⟨m, e2, y, h1, h2, h3⟩
  · rw [y] at hk; obtain ⟨_, _, _, hk⟩ := hk; cases hk
  · rw [y] at hk; obtain ⟨_, _, _, hk⟩ := hk; cases hk
  · rw [y] at hk; obtain ⟨_, _, _, hk⟩ := hk; cases hk; omega
end
section
variable {ys : List (Nat × LRec)} {lo : Nat} {H : AHeap} {A : AV} {l : List Ce} {es : List (List AV)} {ls : List (List Ce)}
theorem refLayout_run (hA : Sl 3 A (cesA l)) (hl : l.length < 2 ^ 18) (h32 : R32 l) (w : Int) : CallRo (ELo oc) ys lo 66 [A, .v (.int .i64 w)] H (rwA (layL l w)) := by
  refine WC.pureR rfl fun lo' H' hh => ?_
  have hlo := lo_two hh
  have hLi := fun ys G => refLine_run (ys := ys) (lo := lo') (H := G) (.inl hA) (by omega) h32
  by_cases hm : mayL l w
  · have hm' := hm
    obtain ⟨w2, w3, hg⟩ := hm'
    simp only [decide_eq_true hg] at hLi
    have hlay : layL l w = lay w.toNat [] l := if_pos hm
    have hrw : rwA (layL l w) = .sl 2 (rowsA (lay w.toNat [] l)) := by rw [hlay, rwA, if_neg (lay_ne _ _ _)]
    have hall := lay_rows w.toNat (by omega) (by omega) l [] hg trivial (Nat.zero_le _)
    rw [hrw]
    have lnl : ∀ G, primL lo' G (builtinA (ELo oc) .len #[41] 3 [A]) = some (.v (.int .i64 l.length), G, ⟨0, 0, 0⟩) := fun G => by rw [len_cell lo' (.inl hA), rdTr_Sl hA]
    have ixl : ∀ G (z : Int), 0 ≤ z → z < l.length → primL lo' G (indexAddrA (ELo oc) 41 A (.v (.int .i64 z))) = some (ixA A (cesA l) z.toNat, G, ⟨0, 0, 0⟩) := fun G z z0 z1 => by rw [ix_cell lo' (.inl hA) .i64 z z0 z1, rdTr_Sl hA]
    have fal : ∀ G j f, f < 3 → primL lo' G (fieldAddrA (ELo oc) 52 f (ixA A (cesA l) j)) = some (fxA A (cesA l) j f, G, ⟨0, 0, 0⟩) := fun G j f hf => by rw [fa_cell lo' (.inl hA) j f hf, rdTr_Sl hA]
    have lfw : ∀ G j, j < l.length → primL lo' G (loadA (ELo oc) 3 (fxA A (cesA l) j 1)) = some (.v (.int .i64 (l.getD j zeroC).w), G, ⟨0, 0, 0⟩) := fun G j hj => by rw [lf_w lo' (.inl hA) j hj, rdTr_Sl hA]
    have lfa : ∀ G j, j < l.length → primL lo' G (loadA (ELo oc) 3 (fxA A (cesA l) j 2)) = some (.v (.int .i64 (l.getD j zeroC).a), G, ⟨0, 0, 0⟩) := fun G j hj => by rw [lf_a lo' (.inl hA) j hj, rdTr_Sl hA]
    have ldl : ∀ G j, j < l.length → primL lo' G (loadA (ELo oc) 52 (ixA A (cesA l) j)) = some (.agg [.v (.int .i32 (l.getD j zeroC).r), .v (.int .i64 (l.getD j zeroC).w), .v (.int .i64 (l.getD j zeroC).a)], G, ⟨0, 0, 0⟩) := fun G j hj => by rw [ld_cell lo' (.inl hA) j hj, rdTr_Sl hA]
    refine zvin Tryz.func66 Tryz.ntmps66 ?_
    repeat' (first | refine zka ?_ | refine zkb ?_ | (apply RKp.op; ((try simp (disch := (first | omega | exact zX | exact zO | fail)) only [lnl, go_sem, Nat.reduceDiv, Nat.reduceMod, Nat.reduceAdd, Nat.reduceSub, Nat.reduceEqDiff, Nat.reduceLeDiff, Nat.reduceLT, Nat.reduceMul, reduceIte, Nat.reducePow, Int.reduceEq]); exact zL); rfl) | (apply RKp.callR; (apply hLi <;> (exact zD)); rfl; intro tr htr) | refine zkc ?_ | apply RKg.tt | apply RKg.ff | refine zkd ?_ | refine zke ?_ | refine zkf ?_ | (refine RKg.split (fun h => ?_) (fun h => ?_) <;> (try rw [h]) <;> (replace h := zB h) <;> (try (exfalso; first | exact h | omega))) | apply RK.nil | apply V.sq | apply V.bl | apply V.sc | apply V.skip | apply V.label | apply V.ret | apply V.exit | apply SeqQ.normal | apply SeqQ.ret | apply SeqQ.exit | apply BlockQ.normal | apply BlockQ.ret | apply BlockQ.here | refine zbt ?_ | apply LoopS.ret | apply LoopS.exit | apply LoopF.ret | apply LoopF.exit | apply V.regK | refine zva ?_ | refine zvb ?_ | refine zgc ?_ | refine zvd ?_ | refine zve ?_ | (refine zvf (fun h => ?_) (fun h => ?_) <;> (replace h := zB h) <;> (try (exfalso; first | exact h | omega))) | (refine zfc Tryz.results66 ?_; (try dsimp only)))
    apply V.lpS [6, 5, 7, 22, 23, 24, 25, 26, 27, 28, 29, 30, 31, 32, 33, 34, 35, 36, 37, 38, 39, 40, 41, 42, 43, 44, 45, 46, 47, 48, 49, 50, 51, 52, 53, 54, 55, 56, 57, 58, 59, 60, 61, 62, 63, 64, 65, 66, 67, 68, 69, 70, 71, 72, 73, 74, 75, 76, 77, 78, 79, 80, 81, 82, 83, 84, 85, 86, 87, 88, 89, 90, 91, 92, 93, 94, 95, 96, 97, 98, 99, 100, 101, 102, 103, 104, 105, 106, 107, 108, 109, 110, 111, 112] (fun k xs H2 => ∃ (i : Nat) (g : _) (n e L : Nat) (esr : List (List AV)) (done : List Rw) (cur : List Ce), xs = .v (.int .i64 i) :: .os n e 0 L :: g ∧ k = l.length - i ∧ i ≤ l.length ∧ Ext H' H2 ∧ RowsN H2 H'.next n e L esr (done ++ [(cur, false)]) ∧ done ++ lay w.toNat cur (l.drop i) = lay w.toNat [] l ∧ cur.length ≤ w.toNat ∧ done.length ≤ i) l.length
    focus (intro xs; simp only [putMany, set2, Nat.reduceAdd, Nat.reduceDiv, Nat.reduceMod, nth_zero, nth_succ, List.set_cons_zero, List.set_cons_succ]; rfl)
    focus (first | rfl | simp only [readMany, nth_zero, nth_succ, Nat.reduceDiv, Nat.reduceMod])
    · exact ⟨0, _, H'.next, 0, 1, [[.v (.slice none 0 0), .v (.bool false)]], [], [], rfl, rfl, Nat.zero_le _, by exact zX, RowsN.init H', rfl, Nat.zero_le _, Nat.zero_le _⟩
    · rintro k xs H2 ⟨i, g, n, e, L, esr, done, cur, rfl, rfl, hi, hx, hY, hjn, hcl, hdl⟩
      have hn2 := hx.next
      have hll := hY.ll
      rw [List.length_append, List.length_singleton] at hll
      have hk0 : (done ++ [(cur, false)] : List Rw).getD done.length noRw = (cur, false) := getD_last _ _ _ rfl
      have hsl := hY.sl done.length (by rw [List.length_append, List.length_singleton]; omega)
      have hfl := hY.fl done.length (by rw [List.length_append, List.length_singleton]; omega)
      rw [hk0] at hsl hfl
      dsimp only at hsl hfl
      have hln := len_cell lo' hsl
      have hel := hY.el
      have htk : List.take L esr = esr := List.take_of_length_le (by omega)
      have gn := hY.gn
      have hbn := hY.bn
      have hnn := hY.nn
      by_cases hlt : i < l.length
      · have hmem : l.getD i zeroC ∈ l := by rw [List.getD_eq_getElem?_getD, List.getElem?_eq_getElem hlt]; exact List.getElem_mem hlt
        have hcc := hg _ hmem
        have hcw := hcc.w
        have hdr : l.drop i = l.getD i zeroC :: l.drop (i + 1) := by
          rw [List.drop_eq_getElem_cons hlt, List.getD_eq_getElem?_getD, List.getElem?_eq_getElem hlt]; rfl
        rw [hdr] at hjn
        have hc1 : cellsC (l.getD i zeroC) = if (l.getD i zeroC).w = 2 then [l.getD i zeroC, ⟨0, 0, (l.getD i zeroC).a⟩] else [l.getD i zeroC] := rfl
        have ldi := fun G => ldl G i hlt
        have lwi := fun G => lfw G i hlt
        have lai := fun G => lfa G i hlt
        generalize hcv : l.getD i zeroC = c at *
        by_cases hgt : w.toNat < cur.length + c.w.toNat
        · have hlu : lay w.toNat cur (c :: l.drop (i + 1)) = ((if cur.length < w.toNat then cur ++ [padC] else cur), true) :: lay w.toNat (cellsC c) (l.drop (i + 1)) := by
            conv => lhs; unfold lay
            rw [if_pos hgt]
          rw [hlu] at hjn
          obtain ⟨k0, hk0e⟩ : ∃ k0, k0 = done.length := ⟨_, rfl⟩
          have eL : ((L : Nat) : Int) - 1 = (k0 : Int) := by omega
          rw [← hk0e] at hfl hln hsl hk0
          obtain ⟨kk, hkke⟩ : ∃ kk, kk = k0 + 1 := ⟨_, rfl⟩
          have ek : (k0 : Int) + 1 = (kk : Int) := by omega
          by_cases hp : cur.length < w.toNat
          · rw [if_pos hp] at hjn
            obtain ⟨A1, Hp, trp, Hw, esw, p1, p2, p3, p4, hYw, p5, p6⟩ := hY.grow lo' k0 (by rw [List.length_append, List.length_singleton]; omega) (by omega) (by omega) (by rw [hk0]; dsimp only; omega) padC
            rw [hk0] at p4 hYw
            rw [set_last hk0e] at hYw
            dsimp only at p4 hYw
            generalize hrow : cur ++ [padC] = row at *
            have hkw : (done ++ [(row, false)] : List Rw).getD k0 noRw = (row, false) := getD_last _ _ _ hk0e
            have flw := hYw.fl k0 (by rw [List.length_append, List.length_singleton]; omega)
            have tkw : List.take L esw = esw := List.take_of_length_le (by have := hYw.el; omega)
            have elw := hYw.el
            have gnw := hYw.gn
            obtain ⟨Hb, es2, q1, hY2, q2, q3⟩ := hYw.wrap k0 (by rw [List.length_append, List.length_singleton]; omega)
            rw [hkw] at flw hY2
            rw [set_last hk0e] at hY2
            dsimp only at flw hY2
            obtain ⟨Hc, esc, tr5, s1, hYc, s2, s3⟩ := hY2.row lo' (by omega) (by omega)
            obtain ⟨Lc, hLc⟩ : ∃ Lc, Lc = L + 1 := ⟨_, rfl⟩
            rw [← hLc] at s1 hYc
            have hkk : kk = (done ++ [(row, true)] : List Rw).length := by rw [List.length_append, List.length_singleton]; omega
            generalize hdn : (done ++ [(row, true)] : List Rw) = dn at *
            obtain ⟨cr, hcr⟩ : ∃ cr : List Ce, cr = [] := ⟨_, rfl⟩
            rw [← hcr] at hYc
            have hcr0 : cr.length = 0 := by rw [hcr]; rfl
            have hkc : (dn ++ [(cr, false)] : List Rw).getD kk noRw = (cr, false) := getD_last _ _ _ hkk
            obtain ⟨A2, H5, tr6, Hd, es4, t1, t2, t3, t4, hY4, t5, t6⟩ := hYc.grow lo' kk (by rw [List.length_append, List.length_singleton]; omega) (by omega) (by omega) (by rw [hkc]; dsimp only; omega) c
            have flc := hYc.fl kk (by rw [List.length_append, List.length_singleton]; omega)
            have tkc : List.take Lc esc = esc := List.take_of_length_le (by have := hYc.el; omega)
            have elc := hYc.el
            have gnc := hYc.gn
            rw [hkc] at t4 hY4 flc
            rw [set_last hkk] at hY4
            dsimp only at t4 hY4 flc
            have gn4 := hY4.gn
            have tk4 : List.take Lc es4 = es4 := List.take_of_length_le (by have := hY4.el; omega)
            have el4 := hY4.el
            have hkd : (dn ++ [(cr ++ [c], false)] : List Rw).getD kk noRw = (cr ++ [c], false) := getD_last _ _ _ hkk
            have fl4 := hY4.fl kk (by rw [List.length_append, List.length_singleton]; omega)
            rw [hkd] at fl4
            dsimp only at fl4
            rcases hcw with hw1 | hw1
            · exfalso; omega
            · rw [hc1, if_pos hw1] at hjn
              obtain ⟨A3, H6, tr7, He, es5, u1, u2, u3, u4, hY5, u5, u6⟩ := hY4.grow lo' kk (by rw [List.length_append, List.length_singleton]; omega) (by omega) (by omega) (by rw [hkd]; dsimp only; rw [List.length_append, List.length_singleton]; omega) ⟨0, 0, c.a⟩
              rw [hkd] at u4 hY5
              rw [set_last hkk] at hY5
              dsimp only at u4 hY5
              repeat' (first | refine zka ?_ | refine zkb ?_ | (apply RKp.op; ((try simp (disch := (first | omega | exact zX | exact zO | fail)) only [lnl, ixl, fal, ldi, lwi, lai, gn, hln, htk, hel, hfl, eL, ek, p1, p2, p3, p4, gnw, flw, tkw, elw, q1, s1, gnc, t1, t2, t3, t4, flc, tkc, elc, gn4, tk4, el4, fl4, u1, u2, u3, u4, Int.toNat_natCast, go_sem, Nat.reduceDiv, Nat.reduceMod, Nat.reduceAdd, Nat.reduceSub, Nat.reduceEqDiff, Nat.reduceLeDiff, Nat.reduceLT, Nat.reduceMul, reduceIte, Nat.reducePow, Int.reduceEq]); exact zL); rfl) | (apply RKp.call; (apply refPad_run <;> (exact zD)); rfl) | refine zkc ?_ | apply RKg.tt | apply RKg.ff | refine zkd ?_ | refine zke ?_ | refine zkf ?_ | (refine RKg.split (fun h => ?_) (fun h => ?_) <;> (try rw [h]) <;> (replace h := zB h) <;> (try (exfalso; first | exact h | omega))) | apply RK.nil | apply V.sq | apply V.bl | apply V.sc | apply V.skip | apply V.label | apply V.ret | apply V.exit | apply SeqQ.normal | apply SeqQ.ret | apply SeqQ.exit | apply BlockQ.normal | apply BlockQ.ret | apply BlockQ.here | refine zbt ?_ | apply LoopS.ret | apply LoopS.exit | apply LoopF.ret | apply LoopF.exit | apply V.regK | refine zva ?_ | refine zvb ?_ | refine zgc ?_ | refine zvd ?_ | refine zve ?_ | (refine zvf (fun h => ?_) (fun h => ?_) <;> (replace h := zB h) <;> (try (exfalso; first | exact h | omega))) | (refine zfc Tryz.results66 ?_; (try dsimp only)))
              all_goals first
                | (exfalso; omega)
                | exact LoopS.again (l.length - (i + 1)) (by rfl) (by omega) ⟨i + 1, _, n, e + 1, Lc, es5, dn, cr ++ [c] ++ [⟨0, 0, c.a⟩], rfl, rfl, by omega, ⟨by omega, fun k hk => by rw [u6 k hk, t6 k hk, s3 k hk, q3 k hk, p6 k hk, hx.get k hk]⟩, hY5, by rw [← hdn, hcr, List.append_assoc]; exact hjn, by rw [hcr]; show 2 ≤ w.toNat; omega, by rw [← hdn, List.length_append, List.length_singleton]; omega⟩
                | trace_state
          · rw [if_neg hp] at hjn
            have p5 : H2.next ≤ H2.next := Nat.le_refl _
            have hYw := hY
            obtain ⟨row, hrow⟩ : ∃ row, row = cur := ⟨_, rfl⟩
            obtain ⟨esw, hesw⟩ : ∃ esw, esw = esr := ⟨_, rfl⟩
            obtain ⟨Hw, hHw⟩ : ∃ Hw, Hw = H2 := ⟨_, rfl⟩
            subst hrow hesw hHw
            have hkw : (done ++ [(row, false)] : List Rw).getD k0 noRw = (row, false) := getD_last _ _ _ hk0e
            have flw := hYw.fl k0 (by rw [List.length_append, List.length_singleton]; omega)
            have tkw : List.take L esw = esw := List.take_of_length_le (by have := hYw.el; omega)
            have elw := hYw.el
            have gnw := hYw.gn
            obtain ⟨Hb, es2, q1, hY2, q2, q3⟩ := hYw.wrap k0 (by rw [List.length_append, List.length_singleton]; omega)
            rw [hkw] at flw hY2
            rw [set_last hk0e] at hY2
            dsimp only at flw hY2
            obtain ⟨Hc, esc, tr5, s1, hYc, s2, s3⟩ := hY2.row lo' (by omega) (by omega)
            obtain ⟨Lc, hLc⟩ : ∃ Lc, Lc = L + 1 := ⟨_, rfl⟩
            rw [← hLc] at s1 hYc
            have hkk : kk = (done ++ [(row, true)] : List Rw).length := by rw [List.length_append, List.length_singleton]; omega
            generalize hdn : (done ++ [(row, true)] : List Rw) = dn at *
            obtain ⟨cr, hcr⟩ : ∃ cr : List Ce, cr = [] := ⟨_, rfl⟩
            rw [← hcr] at hYc
            have hcr0 : cr.length = 0 := by rw [hcr]; rfl
            have hkc : (dn ++ [(cr, false)] : List Rw).getD kk noRw = (cr, false) := getD_last _ _ _ hkk
            obtain ⟨A2, H5, tr6, Hd, es4, t1, t2, t3, t4, hY4, t5, t6⟩ := hYc.grow lo' kk (by rw [List.length_append, List.length_singleton]; omega) (by omega) (by omega) (by rw [hkc]; dsimp only; omega) c
            have flc := hYc.fl kk (by rw [List.length_append, List.length_singleton]; omega)
            have tkc : List.take Lc esc = esc := List.take_of_length_le (by have := hYc.el; omega)
            have elc := hYc.el
            have gnc := hYc.gn
            rw [hkc] at t4 hY4 flc
            rw [set_last hkk] at hY4
            dsimp only at t4 hY4 flc
            have gn4 := hY4.gn
            have tk4 : List.take Lc es4 = es4 := List.take_of_length_le (by have := hY4.el; omega)
            have el4 := hY4.el
            have hkd : (dn ++ [(cr ++ [c], false)] : List Rw).getD kk noRw = (cr ++ [c], false) := getD_last _ _ _ hkk
            have fl4 := hY4.fl kk (by rw [List.length_append, List.length_singleton]; omega)
            rw [hkd] at fl4
            dsimp only at fl4
            rcases hcw with hw1 | hw1
            · rw [hc1, if_neg (by omega)] at hjn
              repeat' (first | refine zka ?_ | refine zkb ?_ | (apply RKp.op; ((try simp (disch := (first | omega | exact zX | exact zO | fail)) only [lnl, ixl, fal, ldi, lwi, lai, gn, hln, htk, hel, hfl, eL, ek, gnw, flw, tkw, elw, q1, s1, gnc, t1, t2, t3, t4, flc, tkc, elc, Int.toNat_natCast, go_sem, Nat.reduceDiv, Nat.reduceMod, Nat.reduceAdd, Nat.reduceSub, Nat.reduceEqDiff, Nat.reduceLeDiff, Nat.reduceLT, Nat.reduceMul, reduceIte, Nat.reducePow, Int.reduceEq]); exact zL); rfl) | refine zkc ?_ | apply RKg.tt | apply RKg.ff | refine zkd ?_ | refine zke ?_ | refine zkf ?_ | (refine RKg.split (fun h => ?_) (fun h => ?_) <;> (try rw [h]) <;> (replace h := zB h) <;> (try (exfalso; first | exact h | omega))) | apply RK.nil | apply V.sq | apply V.bl | apply V.sc | apply V.skip | apply V.label | apply V.ret | apply V.exit | apply SeqQ.normal | apply SeqQ.ret | apply SeqQ.exit | apply BlockQ.normal | apply BlockQ.ret | apply BlockQ.here | refine zbt ?_ | apply LoopS.ret | apply LoopS.exit | apply LoopF.ret | apply LoopF.exit | apply V.regK | refine zva ?_ | refine zvb ?_ | refine zgc ?_ | refine zvd ?_ | refine zve ?_ | (refine zvf (fun h => ?_) (fun h => ?_) <;> (replace h := zB h) <;> (try (exfalso; first | exact h | omega))) | (refine zfc Tryz.results66 ?_; (try dsimp only)))
              all_goals first
                | (exfalso; omega)
                | exact LoopS.again (l.length - (i + 1)) (by rfl) (by omega) ⟨i + 1, _, n, e + 1, Lc, es4, dn, cr ++ [c], rfl, rfl, by omega, ⟨by omega, fun k hk => by rw [t6 k hk, s3 k hk, q3 k hk, hx.get k hk]⟩, hY4, by rw [← hdn, hcr, List.append_assoc]; exact hjn, by rw [hcr]; show 1 ≤ w.toNat; omega, by rw [← hdn, List.length_append, List.length_singleton]; omega⟩
                | trace_state
            · rw [hc1, if_pos hw1] at hjn
              obtain ⟨A3, H6, tr7, He, es5, u1, u2, u3, u4, hY5, u5, u6⟩ := hY4.grow lo' kk (by rw [List.length_append, List.length_singleton]; omega) (by omega) (by omega) (by rw [hkd]; dsimp only; rw [List.length_append, List.length_singleton]; omega) ⟨0, 0, c.a⟩
              rw [hkd] at u4 hY5
              rw [set_last hkk] at hY5
              dsimp only at u4 hY5
              repeat' (first | refine zka ?_ | refine zkb ?_ | (apply RKp.op; ((try simp (disch := (first | omega | exact zX | exact zO | fail)) only [lnl, ixl, fal, ldi, lwi, lai, gn, hln, htk, hel, hfl, eL, ek, gnw, flw, tkw, elw, q1, s1, gnc, t1, t2, t3, t4, flc, tkc, elc, gn4, tk4, el4, fl4, u1, u2, u3, u4, Int.toNat_natCast, go_sem, Nat.reduceDiv, Nat.reduceMod, Nat.reduceAdd, Nat.reduceSub, Nat.reduceEqDiff, Nat.reduceLeDiff, Nat.reduceLT, Nat.reduceMul, reduceIte, Nat.reducePow, Int.reduceEq]); exact zL); rfl) | refine zkc ?_ | apply RKg.tt | apply RKg.ff | refine zkd ?_ | refine zke ?_ | refine zkf ?_ | (refine RKg.split (fun h => ?_) (fun h => ?_) <;> (try rw [h]) <;> (replace h := zB h) <;> (try (exfalso; first | exact h | omega))) | apply RK.nil | apply V.sq | apply V.bl | apply V.sc | apply V.skip | apply V.label | apply V.ret | apply V.exit | apply SeqQ.normal | apply SeqQ.ret | apply SeqQ.exit | apply BlockQ.normal | apply BlockQ.ret | apply BlockQ.here | refine zbt ?_ | apply LoopS.ret | apply LoopS.exit | apply LoopF.ret | apply LoopF.exit | apply V.regK | refine zva ?_ | refine zvb ?_ | refine zgc ?_ | refine zvd ?_ | refine zve ?_ | (refine zvf (fun h => ?_) (fun h => ?_) <;> (replace h := zB h) <;> (try (exfalso; first | exact h | omega))) | (refine zfc Tryz.results66 ?_; (try dsimp only)))
              all_goals first
                | (exfalso; omega)
                | exact LoopS.again (l.length - (i + 1)) (by rfl) (by omega) ⟨i + 1, _, n, e + 1, Lc, es5, dn, cr ++ [c] ++ [⟨0, 0, c.a⟩], rfl, rfl, by omega, ⟨by omega, fun k hk => by rw [u6 k hk, t6 k hk, s3 k hk, q3 k hk, hx.get k hk]⟩, hY5, by rw [← hdn, hcr, List.append_assoc]; exact hjn, by rw [hcr]; show 2 ≤ w.toNat; omega, by rw [← hdn, List.length_append, List.length_singleton]; omega⟩
                | trace_state
        · have hlu : lay w.toNat cur (c :: l.drop (i + 1)) = lay w.toNat (cur ++ cellsC c) (l.drop (i + 1)) := by
            conv => lhs; unfold lay
            rw [if_neg hgt]
          rw [hlu] at hjn
          obtain ⟨kk, hkk⟩ : ∃ kk, kk = done.length := ⟨_, rfl⟩
          have eL : ((L : Nat) : Int) - 1 = (kk : Int) := by omega
          rw [← hkk] at hfl hln hsl
          have hYc := hY
          obtain ⟨dn, hdn⟩ : ∃ dn, dn = done := ⟨_, rfl⟩
          obtain ⟨cr, hcr⟩ : ∃ cr, cr = cur := ⟨_, rfl⟩
          obtain ⟨Lc, hLc⟩ : ∃ Lc, Lc = L := ⟨_, rfl⟩
          obtain ⟨esc, hesc⟩ : ∃ esc, esc = esr := ⟨_, rfl⟩
          rw [← hdn] at hkk
          subst hdn hcr hLc hesc
          have hkc : (dn ++ [(cr, false)] : List Rw).getD kk noRw = (cr, false) := getD_last _ _ _ hkk
          obtain ⟨A2, H5, tr6, Hd, es4, t1, t2, t3, t4, hY4, t5, t6⟩ := hYc.grow lo' kk (by rw [List.length_append, List.length_singleton]; omega) (by omega) (by omega) (by rw [hkc]; dsimp only; omega) c
          have flc := hYc.fl kk (by rw [List.length_append, List.length_singleton]; omega)
          have tkc : List.take Lc esc = esc := List.take_of_length_le (by have := hYc.el; omega)
          have elc := hYc.el
          have gnc := hYc.gn
          rw [hkc] at t4 hY4 flc
          rw [set_last hkk] at hY4
          dsimp only at t4 hY4 flc
          have gn4 := hY4.gn
          have tk4 : List.take Lc es4 = es4 := List.take_of_length_le (by have := hY4.el; omega)
          have el4 := hY4.el
          have hkd : (dn ++ [(cr ++ [c], false)] : List Rw).getD kk noRw = (cr ++ [c], false) := getD_last _ _ _ hkk
          have fl4 := hY4.fl kk (by rw [List.length_append, List.length_singleton]; omega)
          rw [hkd] at fl4
          dsimp only at fl4
          rcases hcw with hw1 | hw1
          · rw [hc1, if_neg (by omega)] at hjn
            repeat' (first | refine zka ?_ | refine zkb ?_ | (apply RKp.op; ((try simp (disch := (first | omega | exact zX | exact zO | fail)) only [lnl, ixl, fal, ldi, lwi, lai, gn, hln, htk, hel, eL, t1, t2, t3, t4, flc, Int.toNat_natCast, go_sem, Nat.reduceDiv, Nat.reduceMod, Nat.reduceAdd, Nat.reduceSub, Nat.reduceEqDiff, Nat.reduceLeDiff, Nat.reduceLT, Nat.reduceMul, reduceIte, Nat.reducePow, Int.reduceEq]); exact zL); rfl) | refine zkc ?_ | apply RKg.tt | apply RKg.ff | refine zkd ?_ | refine zke ?_ | refine zkf ?_ | (refine RKg.split (fun h => ?_) (fun h => ?_) <;> (try rw [h]) <;> (replace h := zB h) <;> (try (exfalso; first | exact h | omega))) | apply RK.nil | apply V.sq | apply V.bl | apply V.sc | apply V.skip | apply V.label | apply V.ret | apply V.exit | apply SeqQ.normal | apply SeqQ.ret | apply SeqQ.exit | apply BlockQ.normal | apply BlockQ.ret | apply BlockQ.here | refine zbt ?_ | apply LoopS.ret | apply LoopS.exit | apply LoopF.ret | apply LoopF.exit | apply V.regK | refine zva ?_ | refine zvb ?_ | refine zgc ?_ | refine zvd ?_ | refine zve ?_ | (refine zvf (fun h => ?_) (fun h => ?_) <;> (replace h := zB h) <;> (try (exfalso; first | exact h | omega))) | (refine zfc Tryz.results66 ?_; (try dsimp only)))
            all_goals first
              | (exfalso; omega)
              | exact LoopS.again (l.length - (i + 1)) (by rfl) (by omega) ⟨i + 1, _, n, e, Lc, es4, dn, cr ++ [c], rfl, rfl, by omega, ⟨by omega, fun k hk => by rw [t6 k hk, hx.get k hk]⟩, hY4, hjn, by rw [List.length_append, List.length_singleton]; omega, by omega⟩
              | trace_state
          · rw [hc1, if_pos hw1] at hjn
            obtain ⟨A3, H6, tr7, He, es5, u1, u2, u3, u4, hY5, u5, u6⟩ := hY4.grow lo' kk (by rw [List.length_append, List.length_singleton]; omega) (by omega) (by omega) (by rw [hkd]; dsimp only; rw [List.length_append, List.length_singleton]; omega) ⟨0, 0, c.a⟩
            rw [hkd] at u4 hY5
            rw [set_last hkk] at hY5
            dsimp only at u4 hY5
            repeat' (first | refine zka ?_ | refine zkb ?_ | (apply RKp.op; ((try simp (disch := (first | omega | exact zX | exact zO | fail)) only [lnl, ixl, fal, ldi, lwi, lai, gn, hln, htk, hel, eL, t1, t2, t3, t4, flc, gn4, tk4, el4, fl4, u1, u2, u3, u4, Int.toNat_natCast, go_sem, Nat.reduceDiv, Nat.reduceMod, Nat.reduceAdd, Nat.reduceSub, Nat.reduceEqDiff, Nat.reduceLeDiff, Nat.reduceLT, Nat.reduceMul, reduceIte, Nat.reducePow, Int.reduceEq]); exact zL); rfl) | refine zkc ?_ | apply RKg.tt | apply RKg.ff | refine zkd ?_ | refine zke ?_ | refine zkf ?_ | (refine RKg.split (fun h => ?_) (fun h => ?_) <;> (try rw [h]) <;> (replace h := zB h) <;> (try (exfalso; first | exact h | omega))) | apply RK.nil | apply V.sq | apply V.bl | apply V.sc | apply V.skip | apply V.label | apply V.ret | apply V.exit | apply SeqQ.normal | apply SeqQ.ret | apply SeqQ.exit | apply BlockQ.normal | apply BlockQ.ret | apply BlockQ.here | refine zbt ?_ | apply LoopS.ret | apply LoopS.exit | apply LoopF.ret | apply LoopF.exit | apply V.regK | refine zva ?_ | refine zvb ?_ | refine zgc ?_ | refine zvd ?_ | refine zve ?_ | (refine zvf (fun h => ?_) (fun h => ?_) <;> (replace h := zB h) <;> (try (exfalso; first | exact h | omega))) | (refine zfc Tryz.results66 ?_; (try dsimp only)))
            all_goals first
              | (exfalso; omega)
              | exact LoopS.again (l.length - (i + 1)) (by rfl) (by omega) ⟨i + 1, _, n, e, Lc, es5, dn, cr ++ [c] ++ [⟨0, 0, c.a⟩], rfl, rfl, by omega, ⟨by omega, fun k hk => by rw [u6 k hk, t6 k hk, hx.get k hk]⟩, hY5, by rw [List.append_assoc cr]; exact hjn, by rw [List.length_append, List.length_append, List.length_singleton, List.length_singleton]; omega, by omega⟩
              | trace_state
      · have e0 : i = l.length := by omega
        subst e0
        rw [List.drop_length] at hjn
        have hl0 : lay w.toNat cur [] = [(cur ++ blanks (w.toNat - cur.length), false)] := rfl
        rw [hl0] at hjn
        obtain ⟨k0, hk0e⟩ : ∃ k0, k0 = done.length := ⟨_, rfl⟩
        have eL : ((L : Nat) : Int) - 1 = (k0 : Int) := by omega
        repeat' (first | refine zka ?_ | refine zkb ?_ | (apply RKp.op; ((try simp (disch := (first | omega | exact zX | exact zO | fail)) only [lnl, gn, htk, hel, eL, go_sem, Nat.reduceDiv, Nat.reduceMod, Nat.reduceAdd, Nat.reduceSub, Nat.reduceEqDiff, Nat.reduceLeDiff, Nat.reduceLT, Nat.reduceMul, reduceIte, Nat.reducePow, Int.reduceEq]); exact zL); rfl) | refine zkc ?_ | apply RKg.tt | apply RKg.ff | refine zkd ?_ | refine zke ?_ | refine zkf ?_ | (refine RKg.split (fun h => ?_) (fun h => ?_) <;> (try rw [h]) <;> (replace h := zB h) <;> (try (exfalso; first | exact h | omega))) | apply RK.nil | apply V.sq | apply V.bl | apply V.sc | apply V.skip | apply V.label | apply V.ret | apply V.exit | apply SeqQ.normal | apply SeqQ.ret | apply SeqQ.exit | apply BlockQ.normal | apply BlockQ.ret | apply BlockQ.here | refine zbt ?_ | apply LoopS.ret | apply LoopS.exit | apply LoopF.ret | apply LoopF.exit | apply V.regK | refine zva ?_ | refine zvb ?_ | refine zgc ?_ | refine zvd ?_ | refine zve ?_ | (refine zvf (fun h => ?_) (fun h => ?_) <;> (replace h := zB h) <;> (try (exfalso; first | exact h | omega))) | (refine zfc Tryz.results66 ?_; (try dsimp only)))
        apply V.lpS [116, 117, 118, 119, 120, 121, 122, 123, 124, 125, 126, 127, 128, 129, 130, 131, 132, 133, 134, 135] (fun k xs H3 => ∃ (c : Nat) (es2 : List (List AV)), k = w.toNat - c ∧ cur.length ≤ c ∧ c ≤ w.toNat ∧ Ext H' H3 ∧ RowsN H3 H'.next n e L es2 (done ++ [(cur ++ blanks (c - cur.length), false)])) (w.toNat - cur.length)
        focus (intro xs; simp only [putMany, set2, Nat.reduceAdd, Nat.reduceDiv, Nat.reduceMod, nth_zero, nth_succ, List.set_cons_zero, List.set_cons_succ]; rfl)
        focus (first | rfl | simp only [readMany, nth_zero, nth_succ, Nat.reduceDiv, Nat.reduceMod])
        · refine ⟨cur.length, esr, rfl, Nat.le_refl _, hcl, hx, ?_⟩
          rw [Nat.sub_self]
          have : cur ++ blanks 0 = cur := List.append_nil cur
          rw [this]; exact hY
        · rintro k xs H3 ⟨c, es2, rfl, hc1, hc2, hx3, hY3⟩
          have hn3 := hx3.next
          have hk3 : (done ++ [(cur ++ blanks (c - cur.length), false)] : List Rw).getD k0 noRw = (cur ++ blanks (c - cur.length), false) := getD_last _ _ _ hk0e
          have hsl3 := hY3.sl k0 (by rw [List.length_append, List.length_singleton]; omega)
          have hfl3 := hY3.fl k0 (by rw [List.length_append, List.length_singleton]; omega)
          rw [hk3] at hsl3 hfl3
          dsimp only at hsl3 hfl3
          have hcb : (cur ++ blanks (c - cur.length)).length = c := by rw [List.length_append, blanks_len]; omega
          have hln3 := len_cell lo' hsl3
          rw [hcb] at hln3
          have hel3 := hY3.el
          have htk3 : List.take L es2 = es2 := List.take_of_length_le (by omega)
          have gn3 := hY3.gn
          have hnn3 := hY3.nn
          have hbn3 := hY3.bn
          by_cases hcw : c < w.toNat
          · obtain ⟨A1, Hp, trp, Hw, esw, p1, p2, p3, p4, hYw, p5, p6⟩ := hY3.grow lo' k0 (by rw [List.length_append, List.length_singleton]; omega) (by omega) (by omega) (by rw [hk3]; dsimp only; omega) blankC
            rw [hk3] at p4 hYw
            rw [set_last hk0e] at hYw
            dsimp only at p4 hYw
            have hbl : cur ++ blanks (c - cur.length) ++ [blankC] = cur ++ blanks (c + 1 - cur.length) := by
              rw [List.append_assoc]
              congr 1
              have : c + 1 - cur.length = (c - cur.length) + 1 := by omega
              rw [this]
              exact (List.replicate_succ' ..).symm
            rw [hbl] at hYw
            repeat' (first | refine zka ?_ | refine zkb ?_ | (apply RKp.op; ((try simp (disch := (first | omega | exact zX | exact zO | fail)) only [gn3, hln3, hfl3, htk3, hel3, eL, p1, p2, p3, p4, Int.toNat_natCast, go_sem, Nat.reduceDiv, Nat.reduceMod, Nat.reduceAdd, Nat.reduceSub, Nat.reduceEqDiff, Nat.reduceLeDiff, Nat.reduceLT, Nat.reduceMul, reduceIte, Nat.reducePow, Int.reduceEq]); exact zL); rfl) | (apply RKp.call; (apply refBlank_run <;> (exact zD)); rfl) | refine zkc ?_ | apply RKg.tt | apply RKg.ff | refine zkd ?_ | refine zke ?_ | refine zkf ?_ | (refine RKg.split (fun h => ?_) (fun h => ?_) <;> (try rw [h]) <;> (replace h := zB h) <;> (try (exfalso; first | exact h | omega))) | apply RK.nil | apply V.sq | apply V.bl | apply V.sc | apply V.skip | apply V.label | apply V.ret | apply V.exit | apply SeqQ.normal | apply SeqQ.ret | apply SeqQ.exit | apply BlockQ.normal | apply BlockQ.ret | apply BlockQ.here | refine zbt ?_ | apply LoopS.ret | apply LoopS.exit | apply LoopF.ret | apply LoopF.exit | apply V.regK | refine zva ?_ | refine zvb ?_ | refine zgc ?_ | refine zvd ?_ | refine zve ?_ | (refine zvf (fun h => ?_) (fun h => ?_) <;> (replace h := zB h) <;> (try (exfalso; first | exact h | omega))) | (refine zfc Tryz.results66 ?_; (try dsimp only)))
            all_goals first
              | (exfalso; omega)
              | exact LoopS.again (w.toNat - (c + 1)) (by rfl) (by omega) ⟨c + 1, esw, rfl, by omega, by omega, ⟨by omega, fun k hk => by rw [p6 k hk, hx3.get k hk]⟩, hYw⟩
              | trace_state
          · obtain rfl : c = w.toNat := by omega
            rw [hjn] at hY3
            repeat' (first | refine zka ?_ | refine zkb ?_ | (apply RKp.op; ((try simp (disch := (first | omega | exact zX | exact zO | fail)) only [gn3, hln3, hfl3, htk3, hel3, eL, Int.toNat_natCast, go_sem, Nat.reduceDiv, Nat.reduceMod, Nat.reduceAdd, Nat.reduceSub, Nat.reduceEqDiff, Nat.reduceLeDiff, Nat.reduceLT, Nat.reduceMul, reduceIte, Nat.reducePow, Int.reduceEq]); exact zL); rfl) | refine zkc ?_ | apply RKg.tt | apply RKg.ff | refine zkd ?_ | refine zke ?_ | refine zkf ?_ | (refine RKg.split (fun h => ?_) (fun h => ?_) <;> (try rw [h]) <;> (replace h := zB h) <;> (try (exfalso; first | exact h | omega))) | apply RK.nil | apply V.sq | apply V.bl | apply V.sc | apply V.skip | apply V.label | apply V.ret | apply V.exit | apply SeqQ.normal | apply SeqQ.ret | apply SeqQ.exit | apply BlockQ.normal | apply BlockQ.ret | apply BlockQ.here | refine zbt ?_ | apply LoopS.ret | apply LoopS.exit | apply LoopF.ret | apply LoopF.exit | apply V.regK | refine zva ?_ | refine zvb ?_ | refine zgc ?_ | refine zvd ?_ | refine zve ?_ | (refine zvf (fun h => ?_) (fun h => ?_) <;> (replace h := zB h) <;> (try (exfalso; first | exact h | omega))) | (refine zfc Tryz.results66 ?_; (try dsimp only)))
            all_goals first
              | (exfalso; omega)
              | exact frz_rowsLv (by omega) gn3 (hY3.lv (by omega)) (fun r hr z => by have := (hall r hr).1; rw [z, List.length_nil] at this; omega) hY3.ll
              | trace_state
  · have hz : layL l w = [] := if_neg hm
    rw [hz]
    by_cases hg : lineG l
    · simp only [decide_eq_true hg] at hLi
      have hw' : ¬ (2 ≤ w ∧ w ≤ 300) := fun z => hm ⟨z.1, z.2, hg⟩
      refine zvin Tryz.func66 Tryz.ntmps66 ?_
      repeat' (first | refine zka ?_ | refine zkb ?_ | (apply RKp.op; ((try simp (disch := (first | omega | exact zX | exact zO | fail)) only [go_sem, Nat.reduceDiv, Nat.reduceMod, Nat.reduceAdd, Nat.reduceSub, Nat.reduceEqDiff, Nat.reduceLeDiff, Nat.reduceLT, Nat.reduceMul, reduceIte, Nat.reducePow, Int.reduceEq]); exact zL); rfl) | (apply RKp.callR; (apply hLi <;> (exact zD)); rfl; intro tr htr) | refine zkc ?_ | apply RKg.tt | apply RKg.ff | refine zkd ?_ | refine zke ?_ | refine zkf ?_ | (refine RKg.split (fun h => ?_) (fun h => ?_) <;> (try rw [h]) <;> (replace h := zB h) <;> (try (exfalso; first | exact h | omega))) | apply RK.nil | apply V.sq | apply V.bl | apply V.sc | apply V.skip | apply V.label | apply V.ret | apply V.exit | apply SeqQ.normal | apply SeqQ.ret | apply SeqQ.exit | apply BlockQ.normal | apply BlockQ.ret | apply BlockQ.here | refine zbt ?_ | apply LoopS.ret | apply LoopS.exit | apply LoopF.ret | apply LoopF.exit | apply V.regK | refine zva ?_ | refine zvb ?_ | refine zgc ?_ | refine zvd ?_ | refine zve ?_ | (refine zvf (fun h => ?_) (fun h => ?_) <;> (replace h := zB h) <;> (try (exfalso; first | exact h | omega))) | (refine zfc Tryz.results66 ?_; (try dsimp only)))
      all_goals first
        | (exfalso; omega)
        | rfl
        | trace_state
    · simp only [decide_eq_false hg] at hLi
      refine zvin Tryz.func66 Tryz.ntmps66 ?_
      repeat' (first | refine zka ?_ | refine zkb ?_ | (apply RKp.op; ((try simp (disch := (first | omega | exact zX | exact zO | fail)) only [go_sem, Nat.reduceDiv, Nat.reduceMod, Nat.reduceAdd, Nat.reduceSub, Nat.reduceEqDiff, Nat.reduceLeDiff, Nat.reduceLT, Nat.reduceMul, reduceIte, Nat.reducePow, Int.reduceEq]); exact zL); rfl) | (apply RKp.callR; (apply hLi <;> (exact zD)); rfl; intro tr htr) | refine zkc ?_ | apply RKg.tt | apply RKg.ff | refine zkd ?_ | refine zke ?_ | refine zkf ?_ | (refine RKg.split (fun h => ?_) (fun h => ?_) <;> (try rw [h]) <;> (replace h := zB h) <;> (try (exfalso; first | exact h | omega))) | apply RK.nil | apply V.sq | apply V.bl | apply V.sc | apply V.skip | apply V.label | apply V.ret | apply V.exit | apply SeqQ.normal | apply SeqQ.ret | apply SeqQ.exit | apply BlockQ.normal | apply BlockQ.ret | apply BlockQ.here | refine zbt ?_ | apply LoopS.ret | apply LoopS.exit | apply LoopF.ret | apply LoopF.exit | apply V.regK | refine zva ?_ | refine zvb ?_ | refine zgc ?_ | refine zvd ?_ | refine zve ?_ | (refine zvf (fun h => ?_) (fun h => ?_) <;> (replace h := zB h) <;> (try (exfalso; first | exact h | omega))) | (refine zfc Tryz.results66 ?_; (try dsimp only)))
      all_goals first
        | (exfalso; omega)
        | rfl
        | trace_state
end
end Go.Am

namespace Go.Am
variable {oc : Orc} [OrcI oc]
open Go.Proofs
set_option maxRecDepth 8000
set_option maxHeartbeats 8000000
section
variable {ys : List (Nat × LRec)} {lo : Nat} {H : AHeap} {A : AV} {es : List (List AV)} {ls : List (List Ce)}
theorem refAll_run (hA : SlH H 1 A es) (hr : LsP es ls) (w : Int) (hb : (allL ls w).length < 2 ^ 40) (hbl : ls.length < 2 ^ 40) (hln : ∀ j, j < ls.length → (ls.getD j []).length < 2 ^ 18) : CallRo (ELo oc) ys lo 26 [A, .v (.int .i64 w)] H (rwA (allL ls w)) := by
  refine WC.pureR rfl fun lo' H' hh => ?_
  have hA' := hA.two (.inr ⟨[], .inr (by simp)⟩) hh
  have hlo := lo_two hh
  refine zvin Tryz.func26 Tryz.ntmps26 ?_
  repeat' (first | refine zka ?_ | refine zkb ?_ | (apply RKp.op; ((try simp (disch := (first | omega | exact zX | exact zO | fail)) only [lenL lo' hA' hr, go_sem, Nat.reduceDiv, Nat.reduceMod, Nat.reduceAdd, Nat.reduceSub, Nat.reduceEqDiff, Nat.reduceLeDiff, Nat.reduceLT, Nat.reduceMul, reduceIte, Nat.reducePow, Int.reduceEq]); exact zL); rfl) | refine zkc ?_ | apply RKg.tt | apply RKg.ff | refine zkd ?_ | refine zke ?_ | refine zkf ?_ | (refine RKg.split (fun h => ?_) (fun h => ?_) <;> (try rw [h]) <;> (replace h := zB h) <;> (try (exfalso; first | exact h | omega))) | apply RK.nil | apply V.sq | apply V.bl | apply V.sc | apply V.skip | apply V.label | apply V.ret | apply V.exit | apply SeqQ.normal | apply SeqQ.ret | apply SeqQ.exit | apply BlockQ.normal | apply BlockQ.ret | apply BlockQ.here | refine zbt ?_ | apply LoopS.ret | apply LoopS.exit | apply LoopF.ret | apply LoopF.exit | apply V.regK | refine zvd ?_ | refine zve ?_ | (refine zvf (fun h => ?_) (fun h => ?_) <;> (replace h := zB h) <;> (try (exfalso; first | exact h | omega))) | (refine zfc Tryz.results26 ?_; (try dsimp only)))
  apply V.lpS [6, 5, 7, 8, 9, 10, 11, 12, 13, 14, 15, 16, 17, 18, 19, 20] (fun k xs H2 => ∃ (i : Nat) (x : AV) (g : _), xs = .v (.int .i64 i) :: x :: g ∧ k = ls.length - i ∧ i ≤ ls.length ∧ Ext H' H2 ∧ OwS H2 H'.next 48 2 x (rowsA (allL (ls.take i) w)) ∧ (allL (ls.take i) w = [] → x = nilA)) ls.length
  focus (intro xs; simp only [putMany, set2, Nat.reduceAdd, Nat.reduceDiv, Nat.reduceMod, nth_zero, nth_succ, List.set_cons_zero, List.set_cons_succ]; rfl)
  focus (first | rfl | simp only [readMany, nth_zero, nth_succ, Nat.reduceDiv, Nat.reduceMod])
  · exact ⟨0, _, _, rfl, rfl, Nat.zero_le _, Ext.refl _, OwS.nil _ _ _ _, fun _ => rfl⟩
  · rintro k xs H2 ⟨i, x, g, rfl, rfl, hi, hx, ho, h0⟩
    have hn2 := hx.next
    have hA2 := hA'.ext hx
    by_cases hlt : i < ls.length
    · have hl1 := allL_le ls w (i + 1)
      have htk := allL_take (w := w) hlt
      rw [htk, List.length_append] at hl1
      have hLay := fun ys G => refLayout_run (ys := ys) (lo := lo') (H := G) (hr.sl i hlt) (hln i hlt) (hr.r32 i hlt) w
      by_cases hz : layL (ls.getD i []) w = [] ∧ x = nilA
      · obtain ⟨z1, rfl⟩ := hz
        rw [z1, List.append_nil] at htk
        have hap0 : ∀ G, primL lo' G (appendA (ELo oc) 22 (.v (.slice none 0 0)) (.v (.slice none 0 0))) = some (.v (.slice none 0 0), G, rdTr (.v (.slice none 0 0))) := fun G => append_new0 (ELo oc) lo' (.inr rfl) app_row' (.inl (.inr ⟨rfl, .inr rfl⟩))
        rw [z1] at hLay
        have hz2 : rwA [] = .v (.slice none 0 0) := rfl
        rw [hz2] at hLay
        unfold nilA at *
        repeat' (first | refine zka ?_ | refine zkb ?_ | (apply RKp.op; ((try simp (disch := (first | omega | exact zX | exact zO | fail)) only [hap0, lenL lo' hA2 hr, ixL lo' hA2 hr, ldL lo' hA2 hr, Int.toNat_natCast, go_sem, Nat.reduceDiv, Nat.reduceMod, Nat.reduceAdd, Nat.reduceSub, Nat.reduceEqDiff, Nat.reduceLeDiff, Nat.reduceLT, Nat.reduceMul, reduceIte, Nat.reducePow, Int.reduceEq]); exact zL); rfl) | (apply RKp.callR; (apply hLay <;> (exact zD)); rfl; intro tr htr) | refine zkc ?_ | apply RKg.tt | apply RKg.ff | refine zkd ?_ | refine zke ?_ | refine zkf ?_ | (refine RKg.split (fun h => ?_) (fun h => ?_) <;> (try rw [h]) <;> (replace h := zB h) <;> (try (exfalso; first | exact h | omega))) | apply RK.nil | apply V.sq | apply V.bl | apply V.sc | apply V.skip | apply V.label | apply V.ret | apply V.exit | apply SeqQ.normal | apply SeqQ.ret | apply SeqQ.exit | apply BlockQ.normal | apply BlockQ.ret | apply BlockQ.here | refine zbt ?_ | apply LoopS.ret | apply LoopS.exit | apply LoopF.ret | apply LoopF.exit | apply V.regK | refine zvd ?_ | refine zve ?_ | (refine zvf (fun h => ?_) (fun h => ?_) <;> (replace h := zB h) <;> (try (exfalso; first | exact h | omega))) | (refine zfc Tryz.results26 ?_; (try dsimp only)))
        exact LoopS.again (ls.length - (i + 1)) (by rfl) (by omega) ⟨i + 1, _, _, rfl, rfl, by omega, hx, by rw [htk]; exact ho, fun _ => rfl⟩
      · obtain ⟨x', H3, tr3, happ, ho', hnx, hfr, hjs, hnm⟩ := ho.addN (ELo oc) lo' app_row' (.inl (rwA_Sl (layL (ls.getD i []) w))) (fun k _ hk => (rwA_Sl _).nmO hk) (by omega) (by omega) (by rw [rowsA_len, rowsA_len]; unfold roomMax; omega)
        have hx3 : Ext H' H3 := ⟨by omega, fun k hk => by rw [hfr k (by omega) (fun z => by have := ho.nm z; omega), hx.get k hk]⟩
        rw [← rowsA_app, ← htk] at ho'
        repeat' (first | refine zka ?_ | refine zkb ?_ | (apply RKp.op; ((try simp (disch := (first | omega | exact zX | exact zO | fail)) only [happ, lenL lo' hA2 hr, ixL lo' hA2 hr, ldL lo' hA2 hr, Int.toNat_natCast, go_sem, Nat.reduceDiv, Nat.reduceMod, Nat.reduceAdd, Nat.reduceSub, Nat.reduceEqDiff, Nat.reduceLeDiff, Nat.reduceLT, Nat.reduceMul, reduceIte, Nat.reducePow, Int.reduceEq]); exact zL); rfl) | (apply RKp.callR; (apply hLay <;> (exact zD)); rfl; intro tr htr) | refine zkc ?_ | apply RKg.tt | apply RKg.ff | refine zkd ?_ | refine zke ?_ | refine zkf ?_ | (refine RKg.split (fun h => ?_) (fun h => ?_) <;> (try rw [h]) <;> (replace h := zB h) <;> (try (exfalso; first | exact h | omega))) | apply RK.nil | apply V.sq | apply V.bl | apply V.sc | apply V.skip | apply V.label | apply V.ret | apply V.exit | apply SeqQ.normal | apply SeqQ.ret | apply SeqQ.exit | apply BlockQ.normal | apply BlockQ.ret | apply BlockQ.here | refine zbt ?_ | apply LoopS.ret | apply LoopS.exit | apply LoopF.ret | apply LoopF.exit | apply V.regK | refine zvd ?_ | refine zve ?_ | (refine zvf (fun h => ?_) (fun h => ?_) <;> (replace h := zB h) <;> (try (exfalso; first | exact h | omega))) | (refine zfc Tryz.results26 ?_; (try dsimp only)))
        refine LoopS.again (ls.length - (i + 1)) (by rfl) (by omega) ⟨i + 1, x', _, rfl, rfl, by omega, hx3, ho', fun z => ?_⟩
        rw [htk, List.append_eq_nil_iff] at z
        exact absurd ⟨z.2, h0 z.1⟩ hz
    · have e : i = ls.length := by omega
      subst e
      rw [List.take_length] at ho h0
      repeat' (first | refine zka ?_ | refine zkb ?_ | (apply RKp.op; ((try simp (disch := (first | omega | exact zX | exact zO | fail)) only [lenL lo' hA2 hr, go_sem, Nat.reduceDiv, Nat.reduceMod, Nat.reduceAdd, Nat.reduceSub, Nat.reduceEqDiff, Nat.reduceLeDiff, Nat.reduceLT, Nat.reduceMul, reduceIte, Nat.reducePow, Int.reduceEq]); exact zL); rfl) | refine zkc ?_ | apply RKg.tt | apply RKg.ff | refine zkd ?_ | refine zke ?_ | refine zkf ?_ | (refine RKg.split (fun h => ?_) (fun h => ?_) <;> (try rw [h]) <;> (replace h := zB h) <;> (try (exfalso; first | exact h | omega))) | apply RK.nil | apply V.sq | apply V.bl | apply V.sc | apply V.skip | apply V.label | apply V.ret | apply V.exit | apply SeqQ.normal | apply SeqQ.ret | apply SeqQ.exit | apply BlockQ.normal | apply BlockQ.ret | apply BlockQ.here | refine zbt ?_ | apply LoopS.ret | apply LoopS.exit | apply LoopF.ret | apply LoopF.exit | apply V.regK | refine zvd ?_ | refine zve ?_ | (refine zvf (fun h => ?_) (fun h => ?_) <;> (replace h := zB h) <;> (try (exfalso; first | exact h | omega))) | (refine zfc Tryz.results26 ?_; (try dsimp only)))
      exact own_rwA ho h0 (by omega)
theorem refPlace_run (hA : Sl 1 A es) (hr : LsP es ls) (hg : ∀ l ∈ ls, lineG l) (hls : ls.length < 2 ^ 30) (hln : ∀ j, j < ls.length → (ls.getD j []).length < 2 ^ 18) (w line off past : Int) (hb : (allL ls w).length < 2 ^ 40) (hw : -9223372036854775808 ≤ w ∧ w ≤ 9223372036854775807) (hp : past ≤ 2 ^ 62) : CallRo (ELo oc) ys lo 34 [A, .v (.int .i64 w), .agg [.v (.int .i64 line), .v (.int .i64 off), .v (.int .i64 past)]] H (.agg [.v (.int .i64 ((placeL ls w line off past).1 : Nat)), .v (.int .i64 ((placeL ls w line off past).2 : Nat))]) := by
  refine WC.pureR rfl fun lo' H' hh => ?_
  have hA' : SlH H' 1 A es := .inl hA
  have hlo := lo_two hh
  have hz1 := rdTr_Sl hA
  have lnL : ∀ G, primL lo' G (builtinA (ELo oc) .len #[23] 3 [A]) = some (.v (.int .i64 ls.length), G, ⟨0, 0, 0⟩) := fun G => by rw [lenL lo' (.inl hA) hr G (Ext.refl _), hz1]
  have ixLz : ∀ G (z : Int), 0 ≤ z → z < ls.length → primL lo' G (indexAddrA (ELo oc) 23 A (.v (.int .i64 z))) = some (ixA A es z.toNat, G, ⟨0, 0, 0⟩) := fun G z z0 z1 => by rw [ixL lo' (.inl hA) hr G (Ext.refl _) .i64 z z0 z1, hz1]
  have ldLz : ∀ G j, j < ls.length → primL lo' G (loadA (ELo oc) 41 (ixA A es j)) = some (bOf es j, G, ⟨0, 0, 0⟩) := fun G j hj => by rw [ldL lo' (.inl hA) hr G (Ext.refl _) j hj, hz1]
  by_cases hok : 0 ≤ line ∧ line < ls.length ∧ 0 ≤ off ∧ off ≤ (ls.getD line.toNat []).length ∧ 0 ≤ past ∧ mayL (ls.getD line.toNat []) w
  · have hpl : placeL ls w line off past = ((allL (ls.take line.toNat) w).length + (posA w.toNat 0 0 (ls.getD line.toNat []) off.toNat).1,
     if off = (ls.getD line.toNat []).length ∧ 0 < past then (min ((posA w.toNat 0 0 (ls.getD line.toNat []) off.toNat).2 + min past w) (w - 1)).toNat else (posA w.toNat 0 0 (ls.getD line.toNat []) off.toNat).2) := if_pos hok
    rw [hpl]
    obtain ⟨o1, o2, o3, o4, o5, o6⟩ := hok
    obtain ⟨w2, w3, hgl⟩ := o6
    have hlt : line.toNat < ls.length := by omega
    have hcut := cutA_SlH hA' (lo := 0) (hi := line.toNat) (Nat.zero_le _) (by rw [hr.len]; omega)
    have hrc := hr.cut 0 line.toNat (Nat.zero_le _) (by omega)
    rw [List.drop_zero, Nat.sub_zero] at hcut hrc
    rw [List.drop_zero] at hrc
    have hcl := allL_le ls w line.toNat
    have hAll := fun ys G (x : Ext H' G) => refAll_run (ys := ys) (lo := lo') (hcut.ext x) hrc w (by omega) (by rw [List.length_take]; omega) (fun j hj => by
      rw [List.length_take] at hj
      have := hln j (by omega)
      rwa [List.getD_eq_getElem?_getD, List.getElem?_take, if_pos (by omega), ← List.getD_eq_getElem?_getD])
    have hrwl := fun G => len_SlH (ELo oc) lo' (H := G) 22 3 (.inl (rwA_Sl (allL (ls.take line.toNat) w))) (by kernel_rfl)
    simp only [rowsA_len] at hrwl
    have hsl := hr.sl line.toNat hlt
    have hlen := hln line.toNat hlt
    have hC : ∀ G, SlH G 3 (bOf es line.toNat) (cesA (ls.getD line.toNat [])) := fun G => .inl hsl
    have hz2 := rdTr_Sl hsl
    generalize ls.getD line.toNat [] = l at *
    have lnl : ∀ G, primL lo' G (builtinA (ELo oc) .len #[41] 3 [bOf es line.toNat]) = some (.v (.int .i64 l.length), G, ⟨0, 0, 0⟩) := fun G => by rw [len_cell lo' (hC G), hz2]
    have ixl := fun G => ix_cell lo' (hC G)
    have fal := fun G => fa_cell lo' (hC G)
    have lfl := fun G => lf_w lo' (hC G)
    generalize hR : (allL (ls.take line.toNat) w).length = R0 at *
    refine zvin Tryz.func34 Tryz.ntmps34 ?_
    repeat' (first | refine zka ?_ | refine zkb ?_ | (apply RKp.op; ((try simp (disch := (first | omega | exact zX | exact zO | fail)) only [lnL, ixLz, ldLz, slL_hi lo' hA' hr, hrwl, lnl, hR, go_sem, Nat.reduceDiv, Nat.reduceMod, Nat.reduceAdd, Nat.reduceSub, Nat.reduceEqDiff, Nat.reduceLeDiff, Nat.reduceLT, Nat.reduceMul, reduceIte, Nat.reducePow, Int.reduceEq]); exact zL); rfl) | (apply RKp.callR; (apply hAll <;> (exact zD)); rfl; intro tr htr) | refine zkc ?_ | apply RKg.tt | apply RKg.ff | refine zkd ?_ | refine zke ?_ | refine zkf ?_ | (refine RKg.split (fun h => ?_) (fun h => ?_) <;> (try rw [h]) <;> (replace h := zB h) <;> (try (exfalso; first | exact h | omega))) | apply RK.nil | apply V.sq | apply V.bl | apply V.sc | apply V.skip | apply V.label | apply V.ret | apply V.exit | apply SeqQ.normal | apply SeqQ.ret | apply SeqQ.exit | apply BlockQ.normal | apply BlockQ.ret | apply BlockQ.here | refine zbt ?_ | apply LoopS.ret | apply LoopS.exit | apply LoopF.ret | apply LoopF.exit | apply V.regK | refine zva ?_ | refine zvb ?_ | refine zgc ?_ | refine zvd ?_ | refine zve ?_ | (refine zvf (fun h => ?_) (fun h => ?_) <;> (replace h := zB h) <;> (try (exfalso; first | exact h | omega))) | (refine FnQ.retB (resc Tryz.results34) (by simp (disch := (first | omega | exact zX | exact zO | fail)) only [cellR_op, lnL, ixLz, ldLz, slL_hi lo' hA' hr, hrwl, lnl, hR, go_sem, Nat.reduceDiv, Nat.reduceMod, Nat.reduceAdd, Nat.reduceSub, Nat.reduceEqDiff, Nat.reduceLeDiff, Nat.reduceLT, Nat.reduceMul, reduceIte, Nat.reducePow, Int.reduceEq]; rfl) ?_; (try dsimp only)))
    apply V.lpF [11, 9, 10, 64, 65, 66, 67, 68, 69, 70, 71, 72, 73, 74, 75, 76, 77, 78, 79, 80, 81, 82, 83, 84, 85, 86, 87, 88, 89, 90, 91, 92, 93, 94, 95, 96, 97] (fun k xs => ∃ (i r c : Nat) (g : _), xs = .v (.int .i64 i) :: .v (.int .i64 r) :: .v (.int .i64 c) :: g ∧ k = off.toNat + 1 - i ∧ i ≤ off.toNat ∧ posA w.toNat r c (l.drop i) (off.toNat - i) = posA w.toNat 0 0 l off.toNat ∧ r ≤ i ∧ c ≤ w.toNat) (off.toNat + 1)
    focus (intro xs; simp only [putMany, set2, Nat.reduceAdd, Nat.reduceDiv, Nat.reduceMod, nth_zero, nth_succ, List.set_cons_zero, List.set_cons_succ]; rfl)
    focus (first | rfl | simp only [readMany, nth_zero, nth_succ, Nat.reduceDiv, Nat.reduceMod])
    · exact ⟨0, 0, 0, _, rfl, rfl, Nat.zero_le _, rfl, Nat.le_refl _, Nat.zero_le _⟩
    · rintro k xs ⟨i, r, c, g, rfl, rfl, hi, hpo, hri, hcw⟩
      by_cases hil : i < l.length
      · have hmem : l.getD i zeroC ∈ l := by rw [List.getD_eq_getElem?_getD, List.getElem?_eq_getElem hil]; exact List.getElem_mem _
        have hww := (hgl _ hmem).w
        have hdr : l.drop i = l.getD i zeroC :: l.drop (i + 1) := by
          rw [List.drop_eq_getElem_cons hil, List.getD_eq_getElem?_getD, List.getElem?_eq_getElem hil]; rfl
        have lwi := fun G => lfl G i hil
        rw [hdr] at hpo
        generalize l.getD i zeroC = cc at *
        by_cases hoi : i = off.toNat
        · subst hoi
          rw [Nat.sub_self] at hpo
          have hst : posA w.toNat r c (cc :: l.drop (off.toNat + 1)) 0 = if w.toNat < c + cc.w.toNat then (r + 1, 0) else (r, c) := rfl
          rw [hst] at hpo
          by_cases hwr : w.toNat < c + cc.w.toNat
          · rw [if_pos hwr] at hpo
            rw [← hpo]
            repeat' (first | refine zka ?_ | refine zkb ?_ | (apply RKp.op; ((try simp (disch := (first | omega | exact zX | exact zO | fail)) only [lnl, ixl, fal, lwi, Int.toNat_natCast, go_sem, Nat.reduceDiv, Nat.reduceMod, Nat.reduceAdd, Nat.reduceSub, Nat.reduceEqDiff, Nat.reduceLeDiff, Nat.reduceLT, Nat.reduceMul, reduceIte, Nat.reducePow, Int.reduceEq]); exact zL); rfl) | refine zkc ?_ | apply RKg.tt | apply RKg.ff | refine zkd ?_ | refine zke ?_ | refine zkf ?_ | (refine RKg.split (fun h => ?_) (fun h => ?_) <;> (try rw [h]) <;> (replace h := zB h) <;> (try (exfalso; first | exact h | omega))) | apply RK.nil | apply V.sq | apply V.bl | apply V.sc | apply V.skip | apply V.label | apply V.ret | apply V.exit | apply SeqQ.normal | apply SeqQ.ret | apply SeqQ.exit | apply BlockQ.normal | apply BlockQ.ret | apply BlockQ.here | refine zbt ?_ | apply LoopS.ret | apply LoopS.exit | apply LoopF.ret | apply LoopF.exit | apply V.regK | refine zva ?_ | refine zvb ?_ | refine zgc ?_ | refine zvd ?_ | refine zve ?_ | (refine zvf (fun h => ?_) (fun h => ?_) <;> (replace h := zB h) <;> (try (exfalso; first | exact h | omega))) | (refine FnQ.retB (resc Tryz.results34) (by simp (disch := (first | omega | exact zX | exact zO | fail)) only [cellR_op, lnl, ixl, fal, lwi, Int.toNat_natCast, go_sem, Nat.reduceDiv, Nat.reduceMod, Nat.reduceAdd, Nat.reduceSub, Nat.reduceEqDiff, Nat.reduceLeDiff, Nat.reduceLT, Nat.reduceMul, reduceIte, Nat.reducePow, Int.reduceEq]; rfl) ?_; (try dsimp only)))
            all_goals first
              | (exfalso; omega)
              | skip
            all_goals
              rw [frzR_agg, List.map_cons, List.map_cons, List.map_nil, frzC_v, frzC_v]
              rw [if_neg (by omega)]
              all_goals first | rfl | (congr 3 <;> first | rfl | (congr 2; omega))
          · rw [if_neg hwr] at hpo
            rw [← hpo]
            repeat' (first | refine zka ?_ | refine zkb ?_ | (apply RKp.op; ((try simp (disch := (first | omega | exact zX | exact zO | fail)) only [lnl, ixl, fal, lwi, Int.toNat_natCast, go_sem, Nat.reduceDiv, Nat.reduceMod, Nat.reduceAdd, Nat.reduceSub, Nat.reduceEqDiff, Nat.reduceLeDiff, Nat.reduceLT, Nat.reduceMul, reduceIte, Nat.reducePow, Int.reduceEq]); exact zL); rfl) | refine zkc ?_ | apply RKg.tt | apply RKg.ff | refine zkd ?_ | refine zke ?_ | refine zkf ?_ | (refine RKg.split (fun h => ?_) (fun h => ?_) <;> (try rw [h]) <;> (replace h := zB h) <;> (try (exfalso; first | exact h | omega))) | apply RK.nil | apply V.sq | apply V.bl | apply V.sc | apply V.skip | apply V.label | apply V.ret | apply V.exit | apply SeqQ.normal | apply SeqQ.ret | apply SeqQ.exit | apply BlockQ.normal | apply BlockQ.ret | apply BlockQ.here | refine zbt ?_ | apply LoopS.ret | apply LoopS.exit | apply LoopF.ret | apply LoopF.exit | apply V.regK | refine zva ?_ | refine zvb ?_ | refine zgc ?_ | refine zvd ?_ | refine zve ?_ | (refine zvf (fun h => ?_) (fun h => ?_) <;> (replace h := zB h) <;> (try (exfalso; first | exact h | omega))) | (refine FnQ.retB (resc Tryz.results34) (by simp (disch := (first | omega | exact zX | exact zO | fail)) only [cellR_op, lnl, ixl, fal, lwi, Int.toNat_natCast, go_sem, Nat.reduceDiv, Nat.reduceMod, Nat.reduceAdd, Nat.reduceSub, Nat.reduceEqDiff, Nat.reduceLeDiff, Nat.reduceLT, Nat.reduceMul, reduceIte, Nat.reducePow, Int.reduceEq]; rfl) ?_; (try dsimp only)))
            all_goals first
              | (exfalso; omega)
              | skip
            all_goals
              rw [frzR_agg, List.map_cons, List.map_cons, List.map_nil, frzC_v, frzC_v]
              rw [if_neg (by omega)]
              all_goals first | rfl | (congr 3 <;> first | rfl | (congr 2; omega))
        · obtain ⟨q, hq⟩ : ∃ q, off.toNat - i = q + 1 := ⟨off.toNat - i - 1, by omega⟩
          have hst : posA w.toNat r c (cc :: l.drop (i + 1)) (q + 1) = if w.toNat < c + cc.w.toNat then posA w.toNat (r + 1) cc.w.toNat (l.drop (i + 1)) q else posA w.toNat r (c + cc.w.toNat) (l.drop (i + 1)) q := rfl
          rw [hq, hst] at hpo
          have hq2 : off.toNat - (i + 1) = q := by omega
          by_cases hwr : w.toNat < c + cc.w.toNat
          · rw [if_pos hwr] at hpo
            have eB : (0 : Int) + cc.w = ((cc.w.toNat : Nat) : Int) := by omega
            repeat' (first | refine zka ?_ | refine zkb ?_ | (apply RKp.op; ((try simp (disch := (first | omega | exact zX | exact zO | fail)) only [lnl, ixl, fal, lwi, eB, Int.toNat_natCast, go_sem, Nat.reduceDiv, Nat.reduceMod, Nat.reduceAdd, Nat.reduceSub, Nat.reduceEqDiff, Nat.reduceLeDiff, Nat.reduceLT, Nat.reduceMul, reduceIte, Nat.reducePow, Int.reduceEq]); exact zL); rfl) | refine zkc ?_ | apply RKg.tt | apply RKg.ff | refine zkd ?_ | refine zke ?_ | refine zkf ?_ | (refine RKg.split (fun h => ?_) (fun h => ?_) <;> (try rw [h]) <;> (replace h := zB h) <;> (try (exfalso; first | exact h | omega))) | apply RK.nil | apply V.sq | apply V.bl | apply V.sc | apply V.skip | apply V.label | apply V.ret | apply V.exit | apply SeqQ.normal | apply SeqQ.ret | apply SeqQ.exit | apply BlockQ.normal | apply BlockQ.ret | apply BlockQ.here | refine zbt ?_ | apply LoopS.ret | apply LoopS.exit | apply LoopF.ret | apply LoopF.exit | apply V.regK | refine zva ?_ | refine zvb ?_ | refine zgc ?_ | refine zvd ?_ | refine zve ?_ | (refine zvf (fun h => ?_) (fun h => ?_) <;> (replace h := zB h) <;> (try (exfalso; first | exact h | omega))) | (refine FnQ.retB (resc Tryz.results34) (by simp (disch := (first | omega | exact zX | exact zO | fail)) only [cellR_op, lnl, ixl, fal, lwi, eB, Int.toNat_natCast, go_sem, Nat.reduceDiv, Nat.reduceMod, Nat.reduceAdd, Nat.reduceSub, Nat.reduceEqDiff, Nat.reduceLeDiff, Nat.reduceLT, Nat.reduceMul, reduceIte, Nat.reducePow, Int.reduceEq]; rfl) ?_; (try dsimp only)))
            all_goals first
              | (exfalso; omega)
              | exact LoopF.again (off.toNat + 1 - (i + 1)) (by rfl) (by omega) ⟨i + 1, r + 1, cc.w.toNat, _, rfl, rfl, by omega, by rw [hq2]; exact hpo, by omega, by omega⟩
              | trace_state
          · rw [if_neg hwr] at hpo
            have eC : (c : Int) + cc.w = ((c + cc.w.toNat : Nat) : Int) := by omega
            repeat' (first | refine zka ?_ | refine zkb ?_ | (apply RKp.op; ((try simp (disch := (first | omega | exact zX | exact zO | fail)) only [lnl, ixl, fal, lwi, eC, Int.toNat_natCast, go_sem, Nat.reduceDiv, Nat.reduceMod, Nat.reduceAdd, Nat.reduceSub, Nat.reduceEqDiff, Nat.reduceLeDiff, Nat.reduceLT, Nat.reduceMul, reduceIte, Nat.reducePow, Int.reduceEq]); exact zL); rfl) | refine zkc ?_ | apply RKg.tt | apply RKg.ff | refine zkd ?_ | refine zke ?_ | refine zkf ?_ | (refine RKg.split (fun h => ?_) (fun h => ?_) <;> (try rw [h]) <;> (replace h := zB h) <;> (try (exfalso; first | exact h | omega))) | apply RK.nil | apply V.sq | apply V.bl | apply V.sc | apply V.skip | apply V.label | apply V.ret | apply V.exit | apply SeqQ.normal | apply SeqQ.ret | apply SeqQ.exit | apply BlockQ.normal | apply BlockQ.ret | apply BlockQ.here | refine zbt ?_ | apply LoopS.ret | apply LoopS.exit | apply LoopF.ret | apply LoopF.exit | apply V.regK | refine zva ?_ | refine zvb ?_ | refine zgc ?_ | refine zvd ?_ | refine zve ?_ | (refine zvf (fun h => ?_) (fun h => ?_) <;> (replace h := zB h) <;> (try (exfalso; first | exact h | omega))) | (refine FnQ.retB (resc Tryz.results34) (by simp (disch := (first | omega | exact zX | exact zO | fail)) only [cellR_op, lnl, ixl, fal, lwi, eC, Int.toNat_natCast, go_sem, Nat.reduceDiv, Nat.reduceMod, Nat.reduceAdd, Nat.reduceSub, Nat.reduceEqDiff, Nat.reduceLeDiff, Nat.reduceLT, Nat.reduceMul, reduceIte, Nat.reducePow, Int.reduceEq]; rfl) ?_; (try dsimp only)))
            all_goals first
              | (exfalso; omega)
              | exact LoopF.again (off.toNat + 1 - (i + 1)) (by rfl) (by omega) ⟨i + 1, r, c + cc.w.toNat, _, rfl, rfl, by omega, by rw [hq2]; exact hpo, by omega, by omega⟩
              | trace_state
      · have hoi : i = off.toNat := by omega
        subst hoi
        rw [Nat.sub_self, List.drop_eq_nil_of_le (by omega)] at hpo
        have hst : posA w.toNat r c [] 0 = (r, c) := rfl
        rw [hst] at hpo
        rw [← hpo]
        by_cases hpa : 0 < past
        · rw [if_pos ⟨by omega, hpa⟩]
          repeat' (first | refine zka ?_ | refine zkb ?_ | (apply RKp.op; ((try simp (disch := (first | omega | exact zX | exact zO | fail)) only [lnl, Int.toNat_natCast, go_sem, Nat.reduceDiv, Nat.reduceMod, Nat.reduceAdd, Nat.reduceSub, Nat.reduceEqDiff, Nat.reduceLeDiff, Nat.reduceLT, Nat.reduceMul, reduceIte, Nat.reducePow, Int.reduceEq]); exact zL); rfl) | refine zkc ?_ | apply RKg.tt | apply RKg.ff | refine zkd ?_ | refine zke ?_ | refine zkf ?_ | (refine RKg.split (fun h => ?_) (fun h => ?_) <;> (try rw [h]) <;> (replace h := zB h) <;> (try (exfalso; first | exact h | omega))) | apply RK.nil | apply V.sq | apply V.bl | apply V.sc | apply V.skip | apply V.label | apply V.ret | apply V.exit | apply SeqQ.normal | apply SeqQ.ret | apply SeqQ.exit | apply BlockQ.normal | apply BlockQ.ret | apply BlockQ.here | refine zbt ?_ | apply LoopS.ret | apply LoopS.exit | apply LoopF.ret | apply LoopF.exit | apply V.regK | refine zva ?_ | refine zvb ?_ | refine zgc ?_ | refine zvd ?_ | refine zve ?_ | (refine zvf (fun h => ?_) (fun h => ?_) <;> (replace h := zB h) <;> (try (exfalso; first | exact h | omega))) | (refine FnQ.retB (resc Tryz.results34) (by simp (disch := (first | omega | exact zX | exact zO | fail)) only [cellR_op, lnl, Int.toNat_natCast, go_sem, Nat.reduceDiv, Nat.reduceMod, Nat.reduceAdd, Nat.reduceSub, Nat.reduceEqDiff, Nat.reduceLeDiff, Nat.reduceLT, Nat.reduceMul, reduceIte, Nat.reducePow, Int.reduceEq]; rfl) ?_; (try dsimp only)))
          all_goals first
            | (exfalso; omega)
            | (rw [frzR_agg, List.map_cons, List.map_cons, List.map_nil, frzC_v, frzC_v]
               first | rfl | (congr 3 <;> first | rfl | (congr 2; omega)))
        · rw [if_neg (fun z => hpa z.2)]
          repeat' (first | refine zka ?_ | refine zkb ?_ | (apply RKp.op; ((try simp (disch := (first | omega | exact zX | exact zO | fail)) only [lnl, Int.toNat_natCast, go_sem, Nat.reduceDiv, Nat.reduceMod, Nat.reduceAdd, Nat.reduceSub, Nat.reduceEqDiff, Nat.reduceLeDiff, Nat.reduceLT, Nat.reduceMul, reduceIte, Nat.reducePow, Int.reduceEq]); exact zL); rfl) | refine zkc ?_ | apply RKg.tt | apply RKg.ff | refine zkd ?_ | refine zke ?_ | refine zkf ?_ | (refine RKg.split (fun h => ?_) (fun h => ?_) <;> (try rw [h]) <;> (replace h := zB h) <;> (try (exfalso; first | exact h | omega))) | apply RK.nil | apply V.sq | apply V.bl | apply V.sc | apply V.skip | apply V.label | apply V.ret | apply V.exit | apply SeqQ.normal | apply SeqQ.ret | apply SeqQ.exit | apply BlockQ.normal | apply BlockQ.ret | apply BlockQ.here | refine zbt ?_ | apply LoopS.ret | apply LoopS.exit | apply LoopF.ret | apply LoopF.exit | apply V.regK | refine zva ?_ | refine zvb ?_ | refine zgc ?_ | refine zvd ?_ | refine zve ?_ | (refine zvf (fun h => ?_) (fun h => ?_) <;> (replace h := zB h) <;> (try (exfalso; first | exact h | omega))) | (refine FnQ.retB (resc Tryz.results34) (by simp (disch := (first | omega | exact zX | exact zO | fail)) only [cellR_op, lnl, Int.toNat_natCast, go_sem, Nat.reduceDiv, Nat.reduceMod, Nat.reduceAdd, Nat.reduceSub, Nat.reduceEqDiff, Nat.reduceLeDiff, Nat.reduceLT, Nat.reduceMul, reduceIte, Nat.reducePow, Int.reduceEq]; rfl) ?_; (try dsimp only)))
          all_goals first
            | (exfalso; omega)
            | (rw [frzR_agg, List.map_cons, List.map_cons, List.map_nil, frzC_v, frzC_v]
               first | rfl | (congr 3 <;> first | rfl | (congr 2; omega)))
  · have hpl : placeL ls w line off past = (0, 0) := if_neg hok
    rw [hpl]
    by_cases hlt : 0 ≤ line ∧ line < ls.length
    · have lnl : ∀ G, primL lo' G (builtinA (ELo oc) .len #[41] 3 [bOf es line.toNat]) = some (.v (.int .i64 (ls.getD line.toNat []).length), G, ⟨0, 0, 0⟩) := fun G => by rw [len_cell lo' (.inl (hr.sl line.toNat (by omega))), rdTr_Sl (hr.sl line.toNat (by omega))]
      have hgg : lineG (ls.getD line.toNat []) := hg _ (by rw [List.getD_eq_getElem?_getD, List.getElem?_eq_getElem (by omega)]; exact List.getElem_mem _)
      have hok' : ¬ (0 ≤ off ∧ off ≤ (ls.getD line.toNat []).length ∧ 0 ≤ past ∧ 2 ≤ w ∧ w ≤ 300) := fun z => hok ⟨hlt.1, hlt.2, z.1, z.2.1, z.2.2.1, z.2.2.2.1, z.2.2.2.2, hgg⟩
      refine zvin Tryz.func34 Tryz.ntmps34 ?_
      repeat' (first | refine zka ?_ | refine zkb ?_ | (apply RKp.op; ((try simp (disch := (first | omega | exact zX | exact zO | fail)) only [lnL, ixLz, ldLz, lnl, go_sem, Nat.reduceDiv, Nat.reduceMod, Nat.reduceAdd, Nat.reduceSub, Nat.reduceEqDiff, Nat.reduceLeDiff, Nat.reduceLT, Nat.reduceMul, reduceIte, Nat.reducePow, Int.reduceEq]); exact zL); rfl) | refine zkc ?_ | apply RKg.tt | apply RKg.ff | refine zkd ?_ | refine zke ?_ | refine zkf ?_ | (refine RKg.split (fun h => ?_) (fun h => ?_) <;> (try rw [h]) <;> (replace h := zB h) <;> (try (exfalso; first | exact h | omega))) | apply RK.nil | apply V.sq | apply V.bl | apply V.sc | apply V.skip | apply V.label | apply V.ret | apply V.exit | apply SeqQ.normal | apply SeqQ.ret | apply SeqQ.exit | apply BlockQ.normal | apply BlockQ.ret | apply BlockQ.here | refine zbt ?_ | apply LoopS.ret | apply LoopS.exit | apply LoopF.ret | apply LoopF.exit | apply V.regK | refine zva ?_ | refine zvb ?_ | refine zgc ?_ | refine zvd ?_ | refine zve ?_ | (refine zvf (fun h => ?_) (fun h => ?_) <;> (replace h := zB h) <;> (try (exfalso; first | exact h | omega))) | (refine FnQ.retB (resc Tryz.results34) (by simp (disch := (first | omega | exact zX | exact zO | fail)) only [cellR_op, lnL, ixLz, ldLz, lnl, go_sem, Nat.reduceDiv, Nat.reduceMod, Nat.reduceAdd, Nat.reduceSub, Nat.reduceEqDiff, Nat.reduceLeDiff, Nat.reduceLT, Nat.reduceMul, reduceIte, Nat.reducePow, Int.reduceEq]; rfl) ?_; (try dsimp only)))
      all_goals first
        | (exfalso; omega)
        | rfl
        | trace_state
    · refine zvin Tryz.func34 Tryz.ntmps34 ?_
      repeat' (first | refine zka ?_ | refine zkb ?_ | (apply RKp.op; ((try simp (disch := (first | omega | exact zX | exact zO | fail)) only [lnL, ixLz, ldLz, go_sem, Nat.reduceDiv, Nat.reduceMod, Nat.reduceAdd, Nat.reduceSub, Nat.reduceEqDiff, Nat.reduceLeDiff, Nat.reduceLT, Nat.reduceMul, reduceIte, Nat.reducePow, Int.reduceEq]); exact zL); rfl) | refine zkc ?_ | apply RKg.tt | apply RKg.ff | refine zkd ?_ | refine zke ?_ | refine zkf ?_ | (refine RKg.split (fun h => ?_) (fun h => ?_) <;> (try rw [h]) <;> (replace h := zB h) <;> (try (exfalso; first | exact h | omega))) | apply RK.nil | apply V.sq | apply V.bl | apply V.sc | apply V.skip | apply V.label | apply V.ret | apply V.exit | apply SeqQ.normal | apply SeqQ.ret | apply SeqQ.exit | apply BlockQ.normal | apply BlockQ.ret | apply BlockQ.here | refine zbt ?_ | apply LoopS.ret | apply LoopS.exit | apply LoopF.ret | apply LoopF.exit | apply V.regK | refine zva ?_ | refine zvb ?_ | refine zgc ?_ | refine zvd ?_ | refine zve ?_ | (refine zvf (fun h => ?_) (fun h => ?_) <;> (replace h := zB h) <;> (try (exfalso; first | exact h | omega))) | (refine FnQ.retB (resc Tryz.results34) (by simp (disch := (first | omega | exact zX | exact zO | fail)) only [cellR_op, lnL, ixLz, ldLz, go_sem, Nat.reduceDiv, Nat.reduceMod, Nat.reduceAdd, Nat.reduceSub, Nat.reduceEqDiff, Nat.reduceLeDiff, Nat.reduceLT, Nat.reduceMul, reduceIte, Nat.reducePow, Int.reduceEq]; rfl) ?_; (try dsimp only)))
      all_goals first
        | (exfalso; omega)
        | rfl
        | trace_state
end
end Go.Am
