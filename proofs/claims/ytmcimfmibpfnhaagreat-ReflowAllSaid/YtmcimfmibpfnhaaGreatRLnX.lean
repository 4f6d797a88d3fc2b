/- Parts of the proof: RLnI RLnX. -/
import Derived.Test.YtmcimfmibpfnhaaGreatRLnH
import Derived.Test.YtmcimfmibpfnhaaGreatRLnG
import Derived.Test.YtmcimfmibpfnhaaGreatRLnV
import Derived.Test.YtmcimfmibpfnhaaGreatRLnR
set_option linter.all false
set_option linter.deprecated false

namespace Go.Am
variable {oc : Orc} [OrcI oc]
open Go.Proofs
set_option maxRecDepth 100000
set_option maxHeartbeats 8000000
section
variable {ys : List (Nat × LRec)} {lo : Nat} {H : AHeap} {A M : AV} {es : List (List AV)} {rows : List Rw} {ms : List (Int × Int)}
theorem refRows_run (hA : SlH H 2 A es) (hr : RsP es rows) (hrl : rows.length < 2 ^ 11) (hM : Sl 2 M (posE ms)) (hml : ms.length < 2 ^ 20) (w : Int) (hw : -9223372036854775808 ≤ w ∧ w ≤ 9223372036854775807) (h1 : (joinL rows).length < 2 ^ 16) (h2 : ∀ l ∈ joinL rows, l.length < 2 ^ 18) : CallRo (ELo oc) ys lo 42 [A, .v (.int .i64 w), M] H (.tup [rwA (allL (joinL rows) w), if 2 ≤ w ∧ w ≤ 300 then posL (ms.map (markL rows w)) else nilA]) := by
  refine WC.pureR rfl fun lo' H' hh => ?_
  have hA' := hA.two (.inr ⟨[], .inr (by simp)⟩) hh
  have hlo := lo_two hh
  by_cases hok : 2 ≤ w ∧ w ≤ 300
  · rw [if_pos hok]
    obtain ⟨w1, w2⟩ := hok
    have hJ := fun ys G (x : Ext H' G) => refJoin_run (ys := ys) (lo := lo') (hA'.ext x) hr hrl
    have hbd : (allL (joinL rows) w).length < 2 ^ 40 := by
      have := allL_bd2 (joinL rows) w (2 ^ 18) (fun l hl => by have := h2 l hl; omega)
      have h3 : (joinL rows).length * (2 ^ 18 + 1) ≤ 2 ^ 16 * (2 ^ 18 + 1) := Nat.mul_le_mul_right _ (by omega)
      omega
    refine zvin Tryz.func42 Tryz.ntmps42 ?_
    repeat' (first | refine zka ?_ | refine zkb ?_ | (apply RKp.op; ((try simp (disch := (first | omega | exact zX | exact zO | fail)) only [go_sem, Nat.reduceDiv, Nat.reduceMod, Nat.reduceAdd, Nat.reduceSub, Nat.reduceEqDiff, Nat.reduceLeDiff, Nat.reduceLT, Nat.reduceMul, reduceIte, Nat.reducePow, Int.reduceEq]); exact zL); rfl) | (apply RKp.callRE; (apply hJ <;> (exact zD)); (intro x; rfl)) | refine zkc ?_ | apply RKg.tt | apply RKg.ff | refine zkd ?_ | refine zke ?_ | refine zkf ?_ | (refine RKg.split (fun h => ?_) (fun h => ?_) <;> (try rw [h]) <;> (replace h := zB h) <;> (try (exfalso; first | exact h | omega))) | apply RK.nil | apply V.sq | apply V.bl | apply V.sc | apply V.skip | apply V.label | apply V.ret | apply V.exit | apply SeqQ.normal | apply SeqQ.ret | apply SeqQ.exit | apply BlockQ.normal | apply BlockQ.ret | apply BlockQ.here | refine zbt ?_ | apply LoopS.ret | apply LoopS.exit | apply LoopF.ret | apply LoopF.exit | apply V.regK | refine zvd ?_ | refine zve ?_ | (refine zvf (fun h => ?_) (fun h => ?_) <;> (replace h := zB h) <;> (try (exfalso; first | exact h | omega))) | (refine zfd Tryz.results42 ?_; (try dsimp only)))
    rintro u tr5 htr5 ⟨ls5, hu, hl5⟩
    have hln : ∀ j, j < (joinL rows).length → ((joinL rows).getD j []).length < 2 ^ 18 := fun j hj => h2 _ (getD_memL (d := []) hj)
    have hSp := fun ys G (x : Ext H' G) (p : Int × Int) => refSpot_run (ys := ys) (lo := lo') (hA'.ext x) hr hrl p.1 p.2
    have hPl := fun ys G (p : Int × Int) => refPlace_run (ys := ys) (lo := lo') (H := G) hu hl5 (fun l hl => (joinL_line rows l hl).1) (by omega) hln w ((spotL rows p.1 p.2).1 : Nat) ((spotL rows p.1 p.2).2.1 : Nat) ((spotL rows p.1 p.2).2.2 : Nat) hbd hw (by have := spot_bd rows p.1 p.2; omega)
    have hAl := fun ys G => refAll_run (ys := ys) (lo := lo') (H := G) (.inl hu) hl5 w hbd (by omega) hln
    have lnM := fun G => lenP lo' hM G
    have ixM := fun G => ixP lo' hM G
    have ldM := fun G => ldPE lo' hM G
    rw [posE_len] at lnM ixM
    repeat' (first | refine zka ?_ | refine zkb ?_ | (apply RKp.op; ((try simp (disch := (first | omega | exact zX | exact zO | fail)) only [lnM, go_sem, Nat.reduceDiv, Nat.reduceMod, Nat.reduceAdd, Nat.reduceSub, Nat.reduceEqDiff, Nat.reduceLeDiff, Nat.reduceLT, Nat.reduceMul, reduceIte, Nat.reducePow, Int.reduceEq]); exact zL); rfl) | refine zkc ?_ | apply RKg.tt | apply RKg.ff | refine zkd ?_ | refine zke ?_ | refine zkf ?_ | (refine RKg.split (fun h => ?_) (fun h => ?_) <;> (try rw [h]) <;> (replace h := zB h) <;> (try (exfalso; first | exact h | omega))) | apply RK.nil | apply V.sq | apply V.bl | apply V.sc | apply V.skip | apply V.label | apply V.ret | apply V.exit | apply SeqQ.normal | apply SeqQ.ret | apply SeqQ.exit | apply BlockQ.normal | apply BlockQ.ret | apply BlockQ.here | refine zbt ?_ | apply LoopS.ret | apply LoopS.exit | apply LoopF.ret | apply LoopF.exit | apply V.regK | refine zvd ?_ | refine zve ?_ | (refine zvf (fun h => ?_) (fun h => ?_) <;> (replace h := zB h) <;> (try (exfalso; first | exact h | omega))) | (refine zfd Tryz.results42 ?_; (try dsimp only)))
    apply V.lpS [10, 9, 19, 20, 21, 22, 23, 24, 25, 26, 27, 28, 29, 30, 31, 32, 33, 34, 35, 36] (fun k xs H6 => ∃ (j : Nat) (x : AV) (g : _), xs = .v (.int .i64 j) :: x :: g ∧ k = ms.length - j ∧ j ≤ ms.length ∧ Ext H' H6 ∧ OwS H6 H'.next 25 2 x (posN ((ms.take j).map (markL rows w))) ∧ ((ms.take j).map (markL rows w) = [] → x = nilA)) ms.length
    focus (intro xs; simp only [putMany, set2, Nat.reduceAdd, Nat.reduceDiv, Nat.reduceMod, nth_zero, nth_succ, List.set_cons_zero, List.set_cons_succ]; rfl)
    focus (first | rfl | simp only [readMany, nth_zero, nth_succ, Nat.reduceDiv, Nat.reduceMod])
    · exact ⟨0, _, _, rfl, rfl, Nat.zero_le _, Ext.refl _, OwS.nil _ _ _ _, fun _ => rfl⟩
    · rintro k xs H6 ⟨j, x, g, rfl, rfl, hj, hx6, ho6, h0⟩
      have n6 := hx6.next
      by_cases hlt : j < ms.length
      · have hS := fun ys G hG => hSp ys G hG (ms.getD j (0, 0))
        have hP := fun ys G => hPl ys G (ms.getD j (0, 0))
        have htk : (ms.take (j + 1)).map (markL rows w) = (ms.take j).map (markL rows w) ++ [markL rows w (ms.getD j (0, 0))] := by
          rw [take_succD (0, 0) hlt, List.map_append]; rfl
        have hml2 : ((ms.take j).map (markL rows w)).length = j := by rw [List.length_map, List.length_take]; omega
        obtain ⟨x', H7, tr7, happ, ho7, hnx7, hfr7, -, hnm7⟩ := ho6.addN (ELo oc) lo' app_pos (y := .sl 2 [[.v (.int .i64 ((markL rows w (ms.getD j (0, 0))).1 : Nat)), .v (.int .i64 ((markL rows w (ms.getD j (0, 0))).2 : Nat))]]) (.inl (.inl rfl)) (fun k hk hk2 => by obtain ⟨_, _, _, e⟩ := hk2; cases e) (by omega) (by omega) (by rw [posN_len, hml2]; simp only [List.length_singleton]; unfold roomMax; omega)
        have hx7 : Ext H' H7 := ⟨by omega, fun k hk => by rw [hfr7 k (by omega) (fun z => by have := (ho6.nm z).1; omega), hx6.get k hk]⟩
        rw [← posN_add, ← htk] at ho7
        change ∀ ys G, CallRo (ELo oc) ys lo' _ _ G (.agg [.v (.int .i64 ((markL rows w (ms.getD j (0, 0))).1 : Nat)), .v (.int .i64 ((markL rows w (ms.getD j (0, 0))).2 : Nat))]) at hP
        repeat' (first | refine zka ?_ | refine zkb ?_ | (apply RKp.op; ((try simp (disch := (first | omega | exact zX | exact zO | fail)) only [lnM, ixM, ldM, happ, Int.toNat_natCast, go_sem, Nat.reduceDiv, Nat.reduceMod, Nat.reduceAdd, Nat.reduceSub, Nat.reduceEqDiff, Nat.reduceLeDiff, Nat.reduceLT, Nat.reduceMul, reduceIte, Nat.reducePow, Int.reduceEq]); exact zL); rfl) | (apply RKp.call; ((first | apply hS | apply hP) <;> (exact zD)); rfl) | (apply RKp.callR; ((first | apply hS | apply hP) <;> (exact zD)); rfl; intro tr htr) | (apply RKp.callO; ((first | apply hS | apply hP) <;> (exact zD)); rfl; intro tr) | (apply RKp.callRE; ((first | apply hS | apply hP) <;> (exact zD)); (intro x; rfl)) | (apply RKp.callE; ((first | apply hS | apply hP) <;> (exact zD)); (intro x; rfl)) | refine zkc ?_ | apply RKg.tt | apply RKg.ff | refine zkd ?_ | refine zke ?_ | refine zkf ?_ | (refine RKg.split (fun h => ?_) (fun h => ?_) <;> (try rw [h]) <;> (replace h := zB h) <;> (try (exfalso; first | exact h | omega))) | apply RK.nil | apply V.sq | apply V.bl | apply V.sc | apply V.skip | apply V.label | apply V.ret | apply V.exit | apply SeqQ.normal | apply SeqQ.ret | apply SeqQ.exit | apply BlockQ.normal | apply BlockQ.ret | apply BlockQ.here | refine zbt ?_ | apply LoopS.ret | apply LoopS.exit | apply LoopF.ret | apply LoopF.exit | apply V.regK | refine zvd ?_ | refine zve ?_ | (refine zvf (fun h => ?_) (fun h => ?_) <;> (replace h := zB h) <;> (try (exfalso; first | exact h | omega))) | (refine zfd Tryz.results42 ?_; (try dsimp only)))
        all_goals first
          | exact LoopS.again (ms.length - (j + 1)) (by rfl) (by omega) ⟨j + 1, x', _, rfl, rfl, by omega, hx7, ho7, fun z => by rw [htk] at z; simp at z⟩
          | trace_state
      · have e : j = ms.length := by omega
        subst e
        rw [List.take_length] at ho6 h0
        repeat' (first | refine zka ?_ | refine zkb ?_ | (apply RKp.op; ((try simp (disch := (first | omega | exact zX | exact zO | fail)) only [lnM, go_sem, Nat.reduceDiv, Nat.reduceMod, Nat.reduceAdd, Nat.reduceSub, Nat.reduceEqDiff, Nat.reduceLeDiff, Nat.reduceLT, Nat.reduceMul, reduceIte, Nat.reducePow, Int.reduceEq]); exact zL); rfl) | (apply RKp.callR; (apply hAl <;> (exact zD)); rfl; intro tr htr) | refine zkc ?_ | apply RKg.tt | apply RKg.ff | refine zkd ?_ | refine zke ?_ | refine zkf ?_ | (refine RKg.split (fun h => ?_) (fun h => ?_) <;> (try rw [h]) <;> (replace h := zB h) <;> (try (exfalso; first | exact h | omega))) | apply RK.nil | apply V.sq | apply V.bl | apply V.sc | apply V.skip | apply V.label | apply V.ret | apply V.exit | apply SeqQ.normal | apply SeqQ.ret | apply SeqQ.exit | apply BlockQ.normal | apply BlockQ.ret | apply BlockQ.here | refine zbt ?_ | apply LoopS.ret | apply LoopS.exit | apply LoopF.ret | apply LoopF.exit | apply V.regK | refine zvd ?_ | refine zve ?_ | (refine zvf (fun h => ?_) (fun h => ?_) <;> (replace h := zB h) <;> (try (exfalso; first | exact h | omega))) | (refine zfd Tryz.results42 ?_; (try dsimp only)))
        all_goals first
          | (rw [frzR_tup, List.map_cons, List.map_cons, List.map_nil, frzR1_rwA, own_posL ho6 h0 (by omega)]; done)
          | trace_state
  · rw [if_neg hok]
    have hz : allL (joinL rows) w = [] := by
      generalize joinL rows = L
      induction L with
      | nil => rfl
      | cons l L ih =>
        rw [allL_cons, ih, layL, if_neg (fun z => hok ⟨z.1, z.2.1⟩)]; rfl
    rw [hz]
    refine zvin Tryz.func42 Tryz.ntmps42 ?_
    repeat' (first | refine zka ?_ | refine zkb ?_ | (apply RKp.op; ((try simp (disch := (first | omega | exact zX | exact zO | fail)) only [go_sem, Nat.reduceDiv, Nat.reduceMod, Nat.reduceAdd, Nat.reduceSub, Nat.reduceEqDiff, Nat.reduceLeDiff, Nat.reduceLT, Nat.reduceMul, reduceIte, Nat.reducePow, Int.reduceEq]); exact zL); rfl) | refine zkc ?_ | apply RKg.tt | apply RKg.ff | refine zkd ?_ | refine zke ?_ | refine zkf ?_ | (refine RKg.split (fun h => ?_) (fun h => ?_) <;> (try rw [h]) <;> (replace h := zB h) <;> (try (exfalso; first | exact h | omega))) | apply RK.nil | apply V.sq | apply V.bl | apply V.sc | apply V.skip | apply V.label | apply V.ret | apply V.exit | apply SeqQ.normal | apply SeqQ.ret | apply SeqQ.exit | apply BlockQ.normal | apply BlockQ.ret | apply BlockQ.here | refine zbt ?_ | apply LoopS.ret | apply LoopS.exit | apply LoopF.ret | apply LoopF.exit | apply V.regK | refine zvd ?_ | refine zve ?_ | (refine zvf (fun h => ?_) (fun h => ?_) <;> (replace h := zB h) <;> (try (exfalso; first | exact h | omega))) | (refine zfd Tryz.results42 ?_; (try dsimp only)))
    all_goals first
      | (exfalso; omega)
      | rfl
      | trace_state
end
end Go.Am

namespace Go.Am
variable {oc : Orc} [OrcI oc]
open Go.Proofs
set_option maxRecDepth 100000
set_option maxHeartbeats 8000000
theorem allL_no (L : List (List Ce)) (w : Int) (h : ¬ (2 ≤ w ∧ w ≤ 300)) : allL L w = [] := by
  induction L with
  | nil => rfl
  | cons l L ih =>
    rw [allL_cons, ih, layL, if_neg (fun z => h ⟨z.1, z.2.1⟩)]; rfl
section
variable {A M : AV} {es : List (List AV)} {a : List Rw} {ms : List (Int × Int)}
theorem ReflowAll_law (hbe : ∀ ys lo H, CallR (ELo oc) ys lo 22 [] H (.v (.bool true)) H ⟨0, 0, 0⟩) (hA : Sl 2 A es) (hl : es.length < 2 ^ 63) (hE : RsB es a) (w : Int) (hw : -9223372036854775808 ≤ w ∧ w ≤ 9223372036854775807) (hM : Sl 2 M (posE ms)) (hml : ms.length < 2 ^ 63) : WC (ELo oc) [] 0 7 [A, .v (.int .i64 w), M] .empty fun x _ => x = .v (.bool true) := by
  generalize hEm : AHeap.empty = H0
  have hRa := fun ys G => Rows_run (ys := ys) (lo := 0) (H := G) (.inl hA) hE hl
  have lnM := fun G => lenP 0 hM G
  rw [posE_len] at lnM
  have slM := fun G => slP_hi 0 hM G
  rw [posE_len] at slM
  have hmi : (min (ms.length : Int) 6).toNat = min ms.length 6 := by omega
  have hM2 := cut_Sl2 hM (min ms.length 6)
  have e6 : (posE ms).take (min ms.length 6) = posE (ms.take (min ms.length 6)) := by unfold posE; rw [List.map_take]
  rw [e6] at hM2
  have hm6 : (ms.take (min ms.length 6)).length ≤ 6 := by rw [List.length_take]; omega
  refine zvin Tryz.func7 Tryz.ntmps7 ?_
  repeat' (first | refine zka ?_ | refine zkb ?_ | (apply RKp.op; ((try simp (disch := (first | omega | exact zX | exact zO | fail)) only [go_sem, Nat.reduceDiv, Nat.reduceMod, Nat.reduceAdd, Nat.reduceSub, Nat.reduceEqDiff, Nat.reduceLeDiff, Nat.reduceLT, Nat.reduceMul, reduceIte, Nat.reducePow, Int.reduceEq]); exact zL); rfl) | (apply RKp.call; (apply hbe <;> (exact zD)); rfl) | (apply RKp.callR; (apply hbe <;> (exact zD)); rfl; intro tr htr) | (apply RKp.callO; (apply hbe <;> (exact zD)); rfl; intro tr) | (apply RKp.callRE; (apply hbe <;> (exact zD)); (intro x; rfl)) | (apply RKp.callE; (apply hbe <;> (exact zD)); (intro x; rfl)) | (apply RKp.callNE; (apply hRa <;> (exact zD)); (intro x; rfl)) | refine zkc ?_ | apply RKg.tt | apply RKg.ff | refine zkd ?_ | refine zke ?_ | refine zkf ?_ | (refine RKg.split (fun h => ?_) (fun h => ?_) <;> (try rw [h]) <;> (replace h := zB h) <;> (try (exfalso; first | exact h | omega))) | apply RK.nil | apply V.sq | apply V.bl | apply V.sc | apply V.skip | apply V.label | apply V.ret | apply V.exit | apply SeqQ.normal | apply SeqQ.ret | apply SeqQ.exit | apply BlockQ.normal | apply BlockQ.ret | apply BlockQ.here | refine zbt ?_ | apply LoopS.ret | apply LoopS.exit | apply LoopF.ret | apply LoopF.exit | apply V.regK | refine zva ?_ | refine zvb ?_ | refine zgc ?_ | refine zvd ?_ | refine zve ?_ | (refine zvf (fun h => ?_) (fun h => ?_) <;> (replace h := zB h) <;> (try (exfalso; first | exact h | omega))) | (refine zfc Tryz.results7 ?_; (try dsimp only)))
  rintro x H1 tr htr ⟨es1, ho1, hr1, hx1, -⟩
  have hla := rowsT_len a
  generalize rowsT a = ra at *
  have hX : SlH H1 2 x es1 := ho1.slh
  obtain ⟨hj1, hj2⟩ := joinL_sz hr1 hla
  generalize ms.take (min ms.length 6) = mt at *
  generalize hMT : cutA M 0 (min ms.length 6) = MT at *
  have h32 : ∀ l ∈ joinL ra, R32 l := fun l hl => (hj2 l hl).2
  have hsz := allL_bd2 (joinL ra) w 4200 (fun l hl => (hj2 l hl).1)
  have hsz2 : (joinL ra).length * 4201 ≤ 14 * 4201 := Nat.mul_le_mul_right _ hj1
  have hr2 := RsP.allL w h32
  have hRe := fun ys => reRows_run (ys := ys) (lo := 0) hX hr1 (by omega) (.inl hM2) (by omega) w hw (by omega) (fun l hl => by have := (hj2 l hl).1; omega)
  have hRf := fun ys => refRows_run (ys := ys) (lo := 0) hX hr1 (by omega) hM2 (by omega) w hw (by omega) (fun l hl => by have := (hj2 l hl).1; omega)
  obtain ⟨pl, hpl, hpn⟩ : ∃ pl, Sl 2 (if 2 ≤ w ∧ w ≤ 300 then posL (mt.map (markL ra w)) else nilA) (posN pl) ∧ pl.length ≤ 6 := by
    by_cases hok : 2 ≤ w ∧ w ≤ 300
    · rw [if_pos hok]; exact ⟨_, posL_Sl _, by rw [List.length_map]; exact hm6⟩
    · rw [if_neg hok]; exact ⟨[], .inr ⟨rfl, .inr rfl⟩, Nat.zero_le _⟩
  have hEqR := fun ys G => EqRs_run (ys := ys) (lo := 0) (H := G) (.inl (rwA_Sl (allL (joinL ra) w))) hr2 (.inl (rwA_Sl (allL (joinL ra) w))) hr2 (by omega) (by omega)
  simp only [decide_eq_true (rfl : allL (joinL ra) w = allL (joinL ra) w)] at hEqR
  have hS := fun ys => Same_run (ys := ys) (lo := 0) hX hr1 (.inl (rwA_Sl (allL (joinL ra) w))) hr2 (by omega) (by omega)
  have lnP := fun G => lenP 0 hpl G
  have ixP' := fun G => ixP 0 hpl G
  have ldP' := fun G => ldP 0 hpl G
  rw [posN_len] at lnP ixP'
  generalize hPL : (if 2 ≤ w ∧ w ≤ 300 then posL (mt.map (markL ra w)) else nilA) = P at *
  have hS2 : (joinL ra = joinL (allL (joinL ra) w)) ↔ (2 ≤ w ∧ w ≤ 300) ∨ ra.length = 0 := by
    by_cases hok : 2 ≤ w ∧ w ≤ 300
    · rw [join_join w hok.1 hok.2]; exact ⟨fun _ => .inl hok, fun _ => rfl⟩
    · rw [allL_no _ _ hok]
      constructor
      · intro z
        right
        rw [joinL_nil.1 z]; rfl
      · rintro (z | z)
        · exact absurd z hok
        · rw [List.eq_nil_of_length_eq_zero z]
  have hS3 : decide (joinL ra = joinL (allL (joinL ra) w)) = decide ((2 ≤ w ∧ w ≤ 300) ∨ ra.length = 0) := decide_eq_decide.2 hS2
  simp only [hS3] at hS
  have lnX := fun G hG => lenR 0 hX hr1 G hG
  repeat' (first | refine zka ?_ | refine zkb ?_ | (apply RKp.op; ((try simp (disch := (first | omega | exact zX | exact zO | fail)) only [lnM, slM, hmi, hMT, lnP, go_sem, Nat.reduceDiv, Nat.reduceMod, Nat.reduceAdd, Nat.reduceSub, Nat.reduceEqDiff, Nat.reduceLeDiff, Nat.reduceLT, Nat.reduceMul, reduceIte, Nat.reducePow, Int.reduceEq]); exact zL); rfl) | (apply RKp.callR; ((first | apply hRe | apply hRf | apply hEqR) <;> (exact zD)); rfl; intro tr htr) | refine zkc ?_ | apply RKg.tt | apply RKg.ff | refine zkd ?_ | refine zke ?_ | refine zkf ?_ | (refine RKg.split (fun h => ?_) (fun h => ?_) <;> (try rw [h]) <;> (replace h := zB h) <;> (try (exfalso; first | exact h | omega))) | apply RK.nil | apply V.sq | apply V.bl | apply V.sc | apply V.skip | apply V.label | apply V.ret | apply V.exit | apply SeqQ.normal | apply SeqQ.ret | apply SeqQ.exit | apply BlockQ.normal | apply BlockQ.ret | apply BlockQ.here | refine zbt ?_ | apply LoopS.ret | apply LoopS.exit | apply LoopF.ret | apply LoopF.exit | apply V.regK | refine zva ?_ | refine zvb ?_ | refine zgc ?_ | refine zvd ?_ | refine zve ?_ | (refine zvf (fun h => ?_) (fun h => ?_) <;> (replace h := zB h) <;> (try (exfalso; first | exact h | omega))) | (refine zfc Tryz.results7 ?_; (try dsimp only)))
  all_goals first
    | (exfalso; omega)
    | skip
  apply V.lpF [12, 6, 48, 49, 50, 51, 52, 53, 54, 55, 56, 57, 58, 59, 60, 61, 62] (fun k xs => ∃ (i : Nat) (g : _), xs = .v (.int .i64 i) :: g ∧ k = pl.length - i ∧ i ≤ pl.length) pl.length
  focus (intro xs; simp only [putMany, set2, Nat.reduceAdd, Nat.reduceDiv, Nat.reduceMod, nth_zero, nth_succ, List.set_cons_zero, List.set_cons_succ]; rfl)
  focus (first | rfl | simp only [readMany, nth_zero, nth_succ, Nat.reduceDiv, Nat.reduceMod])
  · exact ⟨0, _, rfl, rfl, Nat.zero_le _⟩
  · rintro k xs ⟨i, g, rfl, rfl, hi⟩
    by_cases hlt : i < pl.length
    · have ldi := fun G => ldP' G i hlt
      generalize pl.getD i (0, 0) = pp at *
      repeat' (first | refine zka ?_ | refine zkb ?_ | (apply RKp.op; ((try simp (disch := (first | omega | exact zX | exact zO | fail)) only [lnP, ixP', ldi, Int.toNat_natCast, go_sem, Nat.reduceDiv, Nat.reduceMod, Nat.reduceAdd, Nat.reduceSub, Nat.reduceEqDiff, Nat.reduceLeDiff, Nat.reduceLT, Nat.reduceMul, reduceIte, Nat.reducePow, Int.reduceEq]); exact zL); rfl) | refine zkc ?_ | apply RKg.tt | apply RKg.ff | refine zkd ?_ | refine zke ?_ | refine zkf ?_ | (refine RKg.split (fun h => ?_) (fun h => ?_) <;> (try rw [h]) <;> (replace h := zB h) <;> (try (exfalso; first | exact h | omega))) | apply RK.nil | apply V.sq | apply V.bl | apply V.sc | apply V.skip | apply V.label | apply V.ret | apply V.exit | apply SeqQ.normal | apply SeqQ.ret | apply SeqQ.exit | apply BlockQ.normal | apply BlockQ.ret | apply BlockQ.here | refine zbt ?_ | apply LoopS.ret | apply LoopS.exit | apply LoopF.ret | apply LoopF.exit | apply V.regK | refine zva ?_ | refine zvb ?_ | refine zgc ?_ | refine zvd ?_ | refine zve ?_ | (refine zvf (fun h => ?_) (fun h => ?_) <;> (replace h := zB h) <;> (try (exfalso; first | exact h | omega))) | (refine zfc Tryz.results7 ?_; (try dsimp only)))
      all_goals first
        | (exfalso; omega)
        | (exfalso; simp at h; done)
        | exact LoopF.again (pl.length - (i + 1)) (by rfl) (by omega) ⟨i + 1, _, rfl, rfl, by omega⟩
        | trace_state
    · repeat' (first | refine zka ?_ | refine zkb ?_ | (apply RKp.op; ((try simp (disch := (first | omega | exact zX | exact zO | fail)) only [lnP, lnX, go_sem, Nat.reduceDiv, Nat.reduceMod, Nat.reduceAdd, Nat.reduceSub, Nat.reduceEqDiff, Nat.reduceLeDiff, Nat.reduceLT, Nat.reduceMul, reduceIte, Nat.reducePow, Int.reduceEq]); exact zL); rfl) | (apply RKp.callR; (apply hS <;> (exact zD)); rfl; intro tr htr) | refine zkc ?_ | apply RKg.tt | apply RKg.ff | refine zkd ?_ | refine zke ?_ | refine zkf ?_ | (refine RKg.split (fun h => ?_) (fun h => ?_) <;> (try rw [h]) <;> (replace h := zB h) <;> (try (exfalso; first | exact h | omega))) | apply RK.nil | apply V.sq | apply V.bl | apply V.sc | apply V.skip | apply V.label | apply V.ret | apply V.exit | apply SeqQ.normal | apply SeqQ.ret | apply SeqQ.exit | apply BlockQ.normal | apply BlockQ.ret | apply BlockQ.here | refine zbt ?_ | apply LoopS.ret | apply LoopS.exit | apply LoopF.ret | apply LoopF.exit | apply V.regK | refine zva ?_ | refine zvb ?_ | refine zgc ?_ | refine zvd ?_ | refine zve ?_ | (refine zvf (fun h => ?_) (fun h => ?_) <;> (replace h := zB h) <;> (try (exfalso; first | exact h | omega))) | (refine zfc Tryz.results7 ?_; (try dsimp only)))
      all_goals first
        | (exfalso; omega)
        | (rw [decide_eq_true (show (2 ≤ w ∧ w ≤ 300) ∨ ra.length = 0 from .inl ⟨by omega, by omega⟩)]; rfl)
        | (rw [show decide ((2 ≤ w ∧ w ≤ 300) ∨ ra.length = 0) = decide ((ra.length : Int) = 0) from decide_eq_decide.2 (by omega), beq_self_eq_true])
        | trace_state
end
theorem ReflowAll_run (v : List AV) (hv : Wd Tryz.prog 6 22 v) (w : Int) (hw : (Lit.int .i64 w).wf = true) (u : List AV) (hu : Wd Tryz.prog 6 54 u) : WC EF [] 0 7 [v.getD 0 .dead, .v (.int .i64 w), u.getD 0 .dead] .empty fun x _ => x = .v (.bool true) := by
  obtain ⟨A, es, a, rfl, hA, hlen, hE⟩ := wd_rowsS (d := 1) hv
  obtain ⟨M, ms, rfl, hM, hml⟩ := wd_possS (d := 3) hu
  exact ReflowAll_law (fun ys lo H => begun_F) hA hlen hE w (i64_wf hw) hM hml
end Go.Am
