/- Parts of the proof: RLnQ RLnT. -/
import Derived.Test.YtmcimfmibpfnhaaGreatRLnS
import Derived.Test.YtmcimfmibpfnhaaGreatRLnJ
import Derived.Test.YtmcimfmibpfnhaaGreatRLnC
import Derived.Test.YtmcimfmibpfnhaaGreatRLnL
set_option linter.all false
set_option linter.deprecated false

namespace Go.Am
variable {oc : Orc} [OrcI oc]
open Go.Proofs
set_option maxRecDepth 8000
set_option maxHeartbeats 8000000
section
variable {ys : List (Nat × LRec)} {lo : Nat} {H : AHeap} {A B : AV} {l m : List Ce} {es es' : List (List AV)} {ls ms : List (List Ce)} {a b : List Rw}
end
end Go.Am

namespace Go.Am
variable {oc : Orc} [OrcI oc]
open Go.Proofs
set_option maxRecDepth 8000
set_option maxHeartbeats 8000000
def posE (l : List (Int × Int)) : List (List AV) := l.map fun p => [.v (.int .i64 p.1), .v (.int .i64 p.2)]
def posN (l : List (Nat × Nat)) : List (List AV) := l.map fun p => [.v (.int .i64 (p.1 : Int)), .v (.int .i64 (p.2 : Int))]
def posL (l : List (Nat × Nat)) : AV := if l = [] then nilA else .sl 2 (posN l)
theorem posE_len (l : List (Int × Int)) : (posE l).length = l.length := List.length_map _
theorem posN_len (l : List (Nat × Nat)) : (posN l).length = l.length := List.length_map _
theorem posL_Sl (l : List (Nat × Nat)) : Sl 2 (posL l) (posN l) := by
  unfold posL
  split
  · rename_i h; subst h; exact .inr ⟨rfl, .inr rfl⟩
  · exact .inl rfl
theorem posN_add (l : List (Nat × Nat)) (p : Nat × Nat) : posN (l ++ [p]) = posN l ++ [[.v (.int .i64 (p.1 : Int)), .v (.int .i64 (p.2 : Int))]] := by unfold posN; rw [List.map_append]; rfl
theorem nth_posE (l : List (Int × Int)) (i : Nat) (h : i < l.length) : nth [] (posE l) i = [.v (.int .i64 (l.getD i (0, 0)).1), .v (.int .i64 (l.getD i (0, 0)).2)] := nth_map _ l i (0, 0) h
theorem nth_posN (l : List (Nat × Nat)) (i : Nat) (h : i < l.length) : nth [] (posN l) i = [.v (.int .i64 ((l.getD i (0, 0)).1 : Int)), .v (.int .i64 ((l.getD i (0, 0)).2 : Int))] := nth_map _ l i (0, 0) h
theorem flat_posN (l : List (Nat × Nat)) : FlatE (posN l) := FlatE.map (fun c x hx => by simp at hx; rcases hx with rfl | rfl <;> rfl) l
theorem app_pos : appInfo (ELo oc).P 54 = some (25, 16, 2) := by kernel_rfl
theorem own_posL {H : AHeap} {lo base : Nat} {x : AV} {l : List (Nat × Nat)} (ho : OwS H base 25 2 x (posN l)) (h0 : l = [] → x = nilA) (hb : lo ≤ base) : frzR1 H lo x = posL l := by
  by_cases hl : l = []
  · subst hl; rw [h0 rfl]; rfl
  · rcases ho with ⟨h1, _⟩ | ⟨n, e, rfl, h1, h2, h3⟩
    · have := congrArg List.length h1
      rw [posN_len] at this
      exact absurd (List.eq_nil_of_length_eq_zero this) hl
    · rw [frzR1_os H lo (by omega) h3 rfl rfl (by simp) (show 0 < 2 by decide) (flat_posN l)]
      simp [posL, hl]
theorem frzR1_rwA (H : AHeap) (lo : Nat) (l : List Rw) : frzR1 H lo (rwA l) = rwA l := by
  unfold rwA
  split <;> rfl

/-- Where a mark stands then. -/
def markL (rows : List Rw) (w : Int) (p : Int × Int) : Nat × Nat := placeL (joinL rows) w ((spotL rows p.1 p.2).1 : Nat) ((spotL rows p.1 p.2).2.1 : Nat) ((spotL rows p.1 p.2).2.2 : Nat)
theorem spot_bd (rows : List Rw) (pr pc : Int) : (spotL rows pr pc).2.2 ≤ rows.length * 300 + 300 := by
  unfold spotL
  split
  · rename_i h
    have h1 := (ofN_bd rows pr.toNat (by omega)).2
    have h2 : offL rows pr.toNat pc ≤ pr.toNat * 300 + 300 := by
      unfold offL
      have := sigL_len ((sndR (rows.getD pr.toNat noRw)).1.take (colOf (sndR (rows.getD pr.toNat noRw)).1 pc))
      have h3 := sndR_len (r := rows.getD pr.toNat noRw)
      rw [List.length_take] at this
      omega
    split
    · dsimp only; omega
    · exact Nat.zero_le _
  · exact Nat.zero_le _
theorem allL_bd2 (ls : List (List Ce)) (w : Int) (k : Nat) (h : ∀ l ∈ ls, l.length ≤ k) : (allL ls w).length ≤ ls.length * (k + 1) := by
  induction ls with
  | nil => exact Nat.zero_le _
  | cons l ls ih =>
    have h1 := layL_le l w
    have h2 := h l List.mem_cons_self
    have h3 := ih fun m hm => h m (List.mem_cons_of_mem _ hm)
    rw [allL_cons, List.length_append, List.length_cons, Nat.succ_mul]; omega
theorem getD_memL {α : Type} {l : List α} {d : α} {i : Nat} (h : i < l.length) : l.getD i d ∈ l := by
  rw [List.getD_eq_getElem?_getD, List.getElem?_eq_getElem h]; exact List.getElem_mem h
section
variable {ys : List (Nat × LRec)} {lo : Nat} {H : AHeap} {A M : AV} {es : List (List AV)} {rows : List Rw} {ms : List (Int × Int)}
theorem reRows_run (hA : SlH H 2 A es) (hr : RsP es rows) (hrl : rows.length < 2 ^ 20) (hM : SlH H 2 M (posE ms)) (hml : ms.length < 2 ^ 20) (w : Int) (hw : -9223372036854775808 ≤ w ∧ w ≤ 9223372036854775807) (h1 : (joinL rows).length < 2 ^ 16) (h2 : ∀ l ∈ joinL rows, l.length < 2 ^ 18) : CallRo (ELo oc) ys lo 41 [A, .v (.int .i64 w), M] H (.tup [rwA (allL (joinL rows) w), if 2 ≤ w ∧ w ≤ 300 then posL (ms.map (markL rows w)) else nilA]) := by
  refine WC.pureR rfl fun lo' H' hh => ?_
  have hA' := hA.two (.inr ⟨[], .inr (by simp)⟩) hh
  have hM' := hM.two (.inr ⟨[], .inr (by simp)⟩) hh
  have hlo := lo_two hh
  by_cases hok : 2 ≤ w ∧ w ≤ 300
  · rw [if_pos hok]
    obtain ⟨w1, w2⟩ := hok
    have hJ := fun ys G (x : Ext H' G) => Join_run (ys := ys) (lo := lo') (hA'.ext x) hr hrl
    have hbd : (allL (joinL rows) w).length < 2 ^ 40 := by
      have := allL_bd2 (joinL rows) w (2 ^ 18) (fun l hl => by have := h2 l hl; omega)
      have h3 : (joinL rows).length * (2 ^ 18 + 1) ≤ 2 ^ 16 * (2 ^ 18 + 1) := Nat.mul_le_mul_right _ (by omega)
      omega
    refine zvin Tryz.func41 Tryz.ntmps41 ?_
    repeat' (first | refine zka ?_ | refine zkb ?_ | (apply RKp.op; ((try simp (disch := (first | omega | exact zX | exact zO | fail)) only [go_sem, Nat.reduceDiv, Nat.reduceMod, Nat.reduceAdd, Nat.reduceSub, Nat.reduceEqDiff, Nat.reduceLeDiff, Nat.reduceLT, Nat.reduceMul, reduceIte, Nat.reducePow, Int.reduceEq]); exact zL); rfl) | (apply RKp.callNE; (apply hJ <;> (exact zD)); (intro x; rfl)) | refine zkc ?_ | apply RKg.tt | apply RKg.ff | refine zkd ?_ | refine zke ?_ | refine zkf ?_ | (refine RKg.split (fun h => ?_) (fun h => ?_) <;> (try rw [h]) <;> (replace h := zB h) <;> (try (exfalso; first | exact h | omega))) | apply RK.nil | apply V.sq | apply V.bl | apply V.sc | apply V.skip | apply V.label | apply V.ret | apply V.exit | apply SeqQ.normal | apply SeqQ.ret | apply SeqQ.exit | apply BlockQ.normal | apply BlockQ.ret | apply BlockQ.here | refine zbt ?_ | apply LoopS.ret | apply LoopS.exit | apply LoopF.ret | apply LoopF.exit | apply V.regK | refine zvd ?_ | refine zve ?_ | (refine zvf (fun h => ?_) (fun h => ?_) <;> (replace h := zB h) <;> (try (exfalso; first | exact h | omega))) | (refine zfd Tryz.results41 ?_; (try dsimp only)))
    rintro u H5 tr5 htr5 ⟨ls5, ho5, hl5, hx5, -⟩
    have hA5 := hA'.ext hx5
    have hM5 := hM'.ext hx5
    have n5 := hx5.next
    have hu := ho5.slh
    have hSp := fun ys G (x : Ext H5 G) (p : Int × Int) => Spot_run (ys := ys) (lo := lo') (hA5.ext x) hr hrl p.1 p.2
    have hPl := fun ys G (x : Ext H5 G) (p : Int × Int) => Place_run (ys := ys) (lo := lo') (hu.ext x) hl5 (by omega) (fun j hj => by have := h2 _ (getD_memL (d := []) hj); omega) w ((spotL rows p.1 p.2).1 : Nat) ((spotL rows p.1 p.2).2.1 : Nat) ((spotL rows p.1 p.2).2.2 : Nat) hbd hw (by have := spot_bd rows p.1 p.2; omega)
    have hAl := fun ys G (x : Ext H5 G) => All_run (ys := ys) (lo := lo') (hu.ext x) hl5 w hbd (by omega)
    have lnM : ∀ G, Ext H5 G → primL lo' G (builtinA (ELo oc) .len #[54] 3 [M]) = some (.v (.int .i64 ms.length), G, rdTr M) := fun G hG => by
      have := len_SlH (ELo oc) lo' 54 3 (hM5.ext hG) (by kernel_rfl)
      rw [posE_len] at this; exact this
    have ixM : ∀ G, Ext H5 G → ∀ z : Int, 0 ≤ z → z < ms.length → primL lo' G (indexAddrA (ELo oc) 54 M (.v (.int .i64 z))) = some (ixA M (posE ms) z.toNat, G, rdTr M) := fun G hG z z0 z1 =>
      ix_SlH (ELo oc) lo' 54 .i64 z (hM5.ext hG) (by kernel_rfl) z0 (by rw [posE_len]; exact z1)
    have ldM : ∀ G, Ext H5 G → ∀ j, j < ms.length → primL lo' G (loadA (ELo oc) 25 (ixA M (posE ms) j)) = some (.agg [.v (.int .i64 (ms.getD j (0, 0)).1), .v (.int .i64 (ms.getD j (0, 0)).2)], G, rdTr M) := fun G hG j hj => by
      rw [load_SlH (ELo oc) lo' 25 j (hM5.ext hG) (by rw [posE_len]; exact hj), nth_posE _ _ hj]; rfl
    repeat' (first | refine zka ?_ | refine zkb ?_ | (apply RKp.op; ((try simp (disch := (first | omega | exact zX | exact zO | fail)) only [lnM, go_sem, Nat.reduceDiv, Nat.reduceMod, Nat.reduceAdd, Nat.reduceSub, Nat.reduceEqDiff, Nat.reduceLeDiff, Nat.reduceLT, Nat.reduceMul, reduceIte, Nat.reducePow, Int.reduceEq]); exact zL); rfl) | refine zkc ?_ | apply RKg.tt | apply RKg.ff | refine zkd ?_ | refine zke ?_ | refine zkf ?_ | (refine RKg.split (fun h => ?_) (fun h => ?_) <;> (try rw [h]) <;> (replace h := zB h) <;> (try (exfalso; first | exact h | omega))) | apply RK.nil | apply V.sq | apply V.bl | apply V.sc | apply V.skip | apply V.label | apply V.ret | apply V.exit | apply SeqQ.normal | apply SeqQ.ret | apply SeqQ.exit | apply BlockQ.normal | apply BlockQ.ret | apply BlockQ.here | refine zbt ?_ | apply LoopS.ret | apply LoopS.exit | apply LoopF.ret | apply LoopF.exit | apply V.regK | refine zvd ?_ | refine zve ?_ | (refine zvf (fun h => ?_) (fun h => ?_) <;> (replace h := zB h) <;> (try (exfalso; first | exact h | omega))) | (refine zfd Tryz.results41 ?_; (try dsimp only)))
    apply V.lpS [22, 9, 11, 23, 24, 25, 26, 27, 28, 29, 30, 31, 32, 33, 34, 35] (fun k xs H6 => ∃ (j : Nat) (x : AV) (g : _), xs = .v (.int .i64 j) :: x :: g ∧ k = ms.length - j ∧ j ≤ ms.length ∧ Ext H5 H6 ∧ OwS H6 H5.next 25 2 x (posN ((ms.take j).map (markL rows w))) ∧ ((ms.take j).map (markL rows w) = [] → x = nilA)) ms.length
    focus (intro xs; simp only [putMany, set2, Nat.reduceAdd, Nat.reduceDiv, Nat.reduceMod, nth_zero, nth_succ, List.set_cons_zero, List.set_cons_succ]; rfl)
    focus (first | rfl | simp only [readMany, nth_zero, nth_succ, Nat.reduceDiv, Nat.reduceMod])
    · exact ⟨0, _, _, rfl, rfl, Nat.zero_le _, Ext.refl _, OwS.nil _ _ _ _, fun _ => rfl⟩
    · rintro k xs H6 ⟨j, x, g, rfl, rfl, hj, hx6, ho6, h0⟩
      have n6 := hx6.next
      by_cases hlt : j < ms.length
      · have hS := fun ys G hG => hSp ys G hG (ms.getD j (0, 0))
        have hP := fun ys G hG => hPl ys G hG (ms.getD j (0, 0))
        have htk : (ms.take (j + 1)).map (markL rows w) = (ms.take j).map (markL rows w) ++ [markL rows w (ms.getD j (0, 0))] := by
          rw [take_succD (0, 0) hlt, List.map_append]; rfl
        have hml2 : ((ms.take j).map (markL rows w)).length = j := by rw [List.length_map, List.length_take]; omega
        obtain ⟨x', H7, tr7, happ, ho7, hnx7, hfr7, -, hnm7⟩ := (ho6.push (poBlk (ms.getD j (0, 0)).1 (ms.getD j (0, 0)).2)).addN (ELo oc) lo' app_pos (y := .sl 2 [[.v (.int .i64 ((markL rows w (ms.getD j (0, 0))).1 : Nat)), .v (.int .i64 ((markL rows w (ms.getD j (0, 0))).2 : Nat))]]) (.inl (.inl rfl)) (fun k hk hk2 => by obtain ⟨_, _, _, e⟩ := hk2; cases e) (by omega) (by rw [next_push]; omega) (by rw [posN_len, hml2]; simp only [List.length_singleton]; unfold roomMax; omega)
        rw [next_push] at hnx7
        have hx7 : Ext H5 H7 := ⟨by omega, fun k hk => by rw [hfr7 k (by rw [next_push]; omega) (fun z => by have := (ho6.nm z).1; omega), get_push, if_neg (by omega), hx6.get k hk]⟩
        rw [← posN_add, ← htk] at ho7
        change ∀ ys G, _ → CallRo (ELo oc) ys lo' _ _ G (.agg [.v (.int .i64 ((markL rows w (ms.getD j (0, 0))).1 : Nat)), .v (.int .i64 ((markL rows w (ms.getD j (0, 0))).2 : Nat))]) at hP
        repeat' (first | refine zka ?_ | refine zkb ?_ | (apply RKp.op; ((try simp (disch := (first | omega | exact zX | exact zO | fail)) only [lnM, ixM, ldM, happ, Int.toNat_natCast, go_sem, Nat.reduceDiv, Nat.reduceMod, Nat.reduceAdd, Nat.reduceSub, Nat.reduceEqDiff, Nat.reduceLeDiff, Nat.reduceLT, Nat.reduceMul, reduceIte, Nat.reducePow, Int.reduceEq]); exact zL); rfl) | (apply RKp.call; ((first | apply hS | apply hP) <;> (exact zD)); rfl) | (apply RKp.callR; ((first | apply hS | apply hP) <;> (exact zD)); rfl; intro tr htr) | (apply RKp.callO; ((first | apply hS | apply hP) <;> (exact zD)); rfl; intro tr) | (apply RKp.callRE; ((first | apply hS | apply hP) <;> (exact zD)); (intro x; rfl)) | (apply RKp.callE; ((first | apply hS | apply hP) <;> (exact zD)); (intro x; rfl)) | refine zkc ?_ | apply RKg.tt | apply RKg.ff | refine zkd ?_ | refine zke ?_ | refine zkf ?_ | (refine RKg.split (fun h => ?_) (fun h => ?_) <;> (try rw [h]) <;> (replace h := zB h) <;> (try (exfalso; first | exact h | omega))) | apply RK.nil | apply V.sq | apply V.bl | apply V.sc | apply V.skip | apply V.label | apply V.ret | apply V.exit | apply SeqQ.normal | apply SeqQ.ret | apply SeqQ.exit | apply BlockQ.normal | apply BlockQ.ret | apply BlockQ.here | refine zbt ?_ | apply LoopS.ret | apply LoopS.exit | apply LoopF.ret | apply LoopF.exit | apply V.regK | refine zvd ?_ | refine zve ?_ | (refine zvf (fun h => ?_) (fun h => ?_) <;> (replace h := zB h) <;> (try (exfalso; first | exact h | omega))) | (refine zfd Tryz.results41 ?_; (try dsimp only)))
        all_goals first
          | exact LoopS.again (ms.length - (j + 1)) (by rfl) (by omega) ⟨j + 1, x', _, rfl, rfl, by omega, hx7, ho7, fun z => by rw [htk] at z; simp at z⟩
          | trace_state
      · have e : j = ms.length := by omega
        subst e
        rw [List.take_length] at ho6 h0
        repeat' (first | refine zka ?_ | refine zkb ?_ | (apply RKp.op; ((try simp (disch := (first | omega | exact zX | exact zO | fail)) only [lnM, go_sem, Nat.reduceDiv, Nat.reduceMod, Nat.reduceAdd, Nat.reduceSub, Nat.reduceEqDiff, Nat.reduceLeDiff, Nat.reduceLT, Nat.reduceMul, reduceIte, Nat.reducePow, Int.reduceEq]); exact zL); rfl) | (apply RKp.callR; (apply hAl <;> (exact zD)); rfl; intro tr htr) | refine zkc ?_ | apply RKg.tt | apply RKg.ff | refine zkd ?_ | refine zke ?_ | refine zkf ?_ | (refine RKg.split (fun h => ?_) (fun h => ?_) <;> (try rw [h]) <;> (replace h := zB h) <;> (try (exfalso; first | exact h | omega))) | apply RK.nil | apply V.sq | apply V.bl | apply V.sc | apply V.skip | apply V.label | apply V.ret | apply V.exit | apply SeqQ.normal | apply SeqQ.ret | apply SeqQ.exit | apply BlockQ.normal | apply BlockQ.ret | apply BlockQ.here | refine zbt ?_ | apply LoopS.ret | apply LoopS.exit | apply LoopF.ret | apply LoopF.exit | apply V.regK | refine zvd ?_ | refine zve ?_ | (refine zvf (fun h => ?_) (fun h => ?_) <;> (replace h := zB h) <;> (try (exfalso; first | exact h | omega))) | (refine zfd Tryz.results41 ?_; (try dsimp only)))
        all_goals first
          | (rw [frzR_tup, List.map_cons, List.map_cons, List.map_nil, frzR1_rwA, own_posL ho6 h0 (by omega)]; done)
          | trace_state
  · rw [if_neg hok]
    have hz : allL (joinL rows) w = [] := by
      generalize joinL rows = L
      induction L with
      | nil => rfl
      | cons l L ih =>
        rw [allL_cons, ih, layL, if_neg (fun z => hok ⟨z.1, z.2.1⟩)]; rfl
    rw [hz]
    refine zvin Tryz.func41 Tryz.ntmps41 ?_
    repeat' (first | refine zka ?_ | refine zkb ?_ | (apply RKp.op; ((try simp (disch := (first | omega | exact zX | exact zO | fail)) only [go_sem, Nat.reduceDiv, Nat.reduceMod, Nat.reduceAdd, Nat.reduceSub, Nat.reduceEqDiff, Nat.reduceLeDiff, Nat.reduceLT, Nat.reduceMul, reduceIte, Nat.reducePow, Int.reduceEq]); exact zL); rfl) | refine zkc ?_ | apply RKg.tt | apply RKg.ff | refine zkd ?_ | refine zke ?_ | refine zkf ?_ | (refine RKg.split (fun h => ?_) (fun h => ?_) <;> (try rw [h]) <;> (replace h := zB h) <;> (try (exfalso; first | exact h | omega))) | apply RK.nil | apply V.sq | apply V.bl | apply V.sc | apply V.skip | apply V.label | apply V.ret | apply V.exit | apply SeqQ.normal | apply SeqQ.ret | apply SeqQ.exit | apply BlockQ.normal | apply BlockQ.ret | apply BlockQ.here | refine zbt ?_ | apply LoopS.ret | apply LoopS.exit | apply LoopF.ret | apply LoopF.exit | apply V.regK | refine zvd ?_ | refine zve ?_ | (refine zvf (fun h => ?_) (fun h => ?_) <;> (replace h := zB h) <;> (try (exfalso; first | exact h | omega))) | (refine zfd Tryz.results41 ?_; (try dsimp only)))
    all_goals first
      | (exfalso; omega)
      | rfl
      | trace_state
end
end Go.Am
