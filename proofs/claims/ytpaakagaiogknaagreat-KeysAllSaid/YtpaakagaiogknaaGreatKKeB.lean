
/- Keys: KeysAll's law. -/
import Derived.Test.YtpaakagaiogknaaGreatKKeA
set_option linter.all false
set_option linter.deprecated false
namespace Go.Am
variable {oc : Orc} [OrcI oc]
open Go.Proofs
set_option maxRecDepth 8000
set_option maxHeartbeats 8000000
def viK : List ByteArray := [⟨#[36]⟩, ⟨#[48]⟩, ⟨#[67, 45, 118]⟩, ⟨#[68, 111, 119, 110]⟩, ⟨#[69, 110, 116, 101, 114]⟩, ⟨#[69, 115, 99, 97, 112, 101]⟩, ⟨#[71]⟩, ⟨#[76, 101, 102, 116]⟩, ⟨#[78]⟩, ⟨#[82, 105, 103, 104, 116]⟩, ⟨#[83, 112, 97, 99, 101]⟩, ⟨#[85, 112]⟩, ⟨#[86]⟩, ⟨#[98]⟩, ⟨#[101]⟩, ⟨#[103]⟩, ⟨#[104]⟩, ⟨#[106]⟩, ⟨#[107]⟩, ⟨#[108]⟩, ⟨#[110]⟩, ⟨#[111]⟩, ⟨#[113]⟩, ⟨#[118]⟩, ⟨#[119]⟩, ⟨#[121]⟩]
def emK : List ByteArray := [⟨#[67, 45, 83, 112, 97, 99, 101]⟩, ⟨#[67, 45, 97]⟩, ⟨#[67, 45, 98]⟩, ⟨#[67, 45, 101]⟩, ⟨#[67, 45, 102]⟩, ⟨#[67, 45, 103]⟩, ⟨#[67, 45, 110]⟩, ⟨#[67, 45, 112]⟩, ⟨#[67, 45, 120]⟩, ⟨#[68, 111, 119, 110]⟩, ⟨#[76, 101, 102, 116]⟩, ⟨#[77, 45, 60]⟩, ⟨#[77, 45, 62]⟩, ⟨#[77, 45, 98]⟩, ⟨#[77, 45, 102]⟩, ⟨#[77, 45, 119]⟩, ⟨#[78]⟩, ⟨#[82]⟩, ⟨#[82, 105, 103, 104, 116]⟩, ⟨#[85, 112]⟩, ⟨#[110]⟩, ⟨#[113]⟩]
theorem nz_vi : ∀ i, i < 26 → refD viL (viK.getD i ByteArray.empty) ≠ 0 := by decide +kernel
theorem nz_em : ∀ i, i < 22 → refD emL (emK.getD i ByteArray.empty) ≠ 0 := by decide +kernel
theorem has_vi (key : ByteArray) : refD viL key ≠ 0 ↔ ∃ j, j < 26 ∧ viK.getD j ByteArray.empty = key := by
  constructor
  · intro h
    have h2 : ∃ j, j < 20 ∧ hitP viL key j := Classical.byContradiction fun z => h (refD_no fun j hj hh => z ⟨j, hj, hh⟩)
    obtain ⟨j, hj, _, _, hm⟩ := h2
    have hall : ∀ j, j < 20 → ∀ w ∈ wds (viL.getD j ByteArray.empty).data.toList, ∃ i, i < 26 ∧ (viK.getD i ByteArray.empty).data.toList = w := by decide +kernel
    obtain ⟨i, hi, e⟩ := hall j hj _ hm
    exact ⟨i, hi, ba_list.2 e⟩
  · rintro ⟨j, hj, rfl⟩
    exact nz_vi j hj
theorem has_em (key : ByteArray) : refD emL key ≠ 0 ↔ ∃ j, j < 22 ∧ emK.getD j ByteArray.empty = key := by
  constructor
  · intro h
    have h2 : ∃ j, j < 20 ∧ hitP emL key j := Classical.byContradiction fun z => h (refD_no fun j hj hh => z ⟨j, hj, hh⟩)
    obtain ⟨j, hj, _, _, hm⟩ := h2
    have hall : ∀ j, j < 20 → ∀ w ∈ wds (emL.getD j ByteArray.empty).data.toList, ∃ i, i < 22 ∧ (emK.getD i ByteArray.empty).data.toList = w := by decide +kernel
    obtain ⟨i, hi, e⟩ := hall j hj _ hm
    exact ⟨i, hi, ba_list.2 e⟩
  · rintro ⟨j, hj, rfl⟩
    exact nz_em j hj
theorem leq_vi : ∀ i, 0 < i → i < 26 → (Op.bytesLess (viK.getD i ByteArray.empty).toList (viK.getD (i - 1) ByteArray.empty).toList || ((viK.getD i ByteArray.empty).toList == (viK.getD (i - 1) ByteArray.empty).toList)) = false := by
  intro i h0 h1
  have : ∀ i, i < 26 → 0 < i → (Op.bytesLess (viK.getD i ByteArray.empty).toList (viK.getD (i - 1) ByteArray.empty).toList || ((viK.getD i ByteArray.empty).toList == (viK.getD (i - 1) ByteArray.empty).toList)) = false := by decide +kernel
  exact this i h1 h0
theorem leq_em : ∀ i, 0 < i → i < 22 → (Op.bytesLess (emK.getD i ByteArray.empty).toList (emK.getD (i - 1) ByteArray.empty).toList || ((emK.getD i ByteArray.empty).toList == (emK.getD (i - 1) ByteArray.empty).toList)) = false := by
  intro i h0 h1
  have : ∀ i, i < 22 → 0 < i → (Op.bytesLess (emK.getD i ByteArray.empty).toList (emK.getD (i - 1) ByteArray.empty).toList || ((emK.getD i ByteArray.empty).toList == (emK.getD (i - 1) ByteArray.empty).toList)) = false := by decide +kernel
  exact this i h1 h0
section
theorem KeysAll_law (hbe : ∀ ys lo H, CallR (ELo oc) ys lo 8 [] H (.v (.bool true)) H ⟨0, 0, 0⟩) (t : Int) (key : ByteArray)
    (hD1 : ∀ ys lo H, CallRo (ELo oc) ys lo 16 [.v (.int .i64 1), .v (.string key)] H (.v (.int .i64 (refD viL key : Nat))))
    (hD2 : ∀ ys lo H, CallRo (ELo oc) ys lo 16 [.v (.int .i64 2), .v (.string key)] H (.v (.int .i64 (refD emL key : Nat))))
    (hD0 : ∀ ys lo H, t ≠ 1 → t ≠ 2 → CallRo (ELo oc) ys lo 16 [.v (.int .i64 t), .v (.string key)] H (.v (.int .i64 0)))
    (hN1 : ∀ ys lo H, CallRo (ELo oc) ys lo 18 [.v (.int .i64 1)] H (.sl 1 (strE viK)))
    (hN2 : ∀ ys lo H, CallRo (ELo oc) ys lo 18 [.v (.int .i64 2)] H (.sl 1 (strE emK)))
    (hN0 : ∀ ys lo H, t ≠ 1 → t ≠ 2 → CallRo (ELo oc) ys lo 18 [.v (.int .i64 t)] H nilA) : WC (ELo oc) [] 0 6 [.v (.int .i64 t), .v (.string key)] .empty fun x _ => x = .v (.bool true) := by
  generalize hEm : AHeap.empty = H0
  by_cases h1 : t = 1
  · subst h1
    have hD : ∀ ys G, CallRo (ELo oc) ys 0 16 [.v (.int .i64 1), .v (.string key)] G (.v (.int .i64 (refD viL key : Nat))) := fun ys G => hD1 ys 0 G
    have hR : ∀ ys G s, CallRo (ELo oc) ys 0 17 [.v (.int .i64 1), .v (.string s)] G (.v (.int .i64 (refD viL s : Nat))) := fun ys G s => refDeedV_run (ys := ys) (lo := 0) (H := G) s
    have hN : ∀ ys G, CallRo (ELo oc) ys 0 18 [.v (.int .i64 1)] G (.sl 1 (strE viK)) := fun ys G => hN1 ys 0 G
    have hin := has_vi key
    have hnz := nz_vi
    have hlq := leq_vi
    obtain ⟨n, hn⟩ : ∃ n, n = 26 := ⟨_, rfl⟩
    obtain ⟨K, hK⟩ : ∃ K, K = viK := ⟨_, rfl⟩
    obtain ⟨L, hL⟩ : ∃ L, L = viL := ⟨_, rfl⟩
    have hKn : K.length = n := by rw [hK, hn]; rfl
    rw [← hL] at hin hD hR hnz
    rw [← hK] at hin hN hnz hlq
    rw [← hn] at hin hnz hlq
    have hn30 : n ≤ 26 := by omega
    clear hn hK hL
    have hz1 : ∀ es : List (List AV), rdTr (.sl 1 es) = ⟨0, 0, 0⟩ := fun es => rfl
    have hy1 : ∀ G, SlH G 1 (.sl 1 (strE K)) (strE K) := fun G => .inl (.inl rfl)
    generalize hy : AV.sl 1 (strE K) = y at *
    have hzy : rdTr y = ⟨0, 0, 0⟩ := by rw [← hy]; rfl
    have lnY : ∀ G, primL 0 G (builtinA (ELo oc) .len #[38] 3 [y]) = some (.v (.int .i64 n), G, ⟨0, 0, 0⟩) := fun G => by
      have := len_SlH (ELo oc) 0 38 3 (hy1 G) (by kernel_rfl)
      rw [strE_len, hKn, hzy] at this; exact this
    have ixY : ∀ G (z : Int), 0 ≤ z → z < n → primL 0 G (indexAddrA (ELo oc) 38 y (.v (.int .i64 z))) = some (ixA y (strE K) z.toNat, G, ⟨0, 0, 0⟩) := fun G z z0 z1 => by rw [ix_SlH (ELo oc) 0 38 .i64 z (hy1 G) (by kernel_rfl) z0 (by rw [strE_len, hKn]; exact z1), hzy]
    have ldY : ∀ G j, j < n → primL 0 G (loadA (ELo oc) 9 (ixA y (strE K) j)) = some (.v (.string (K.getD j ByteArray.empty)), G, ⟨0, 0, 0⟩) := fun G j hj => by
      rw [load_SlH (ELo oc) 0 9 j (hy1 G) (by rw [strE_len, hKn]; exact hj), nth_strE K j (by omega), hzy]; rfl
    refine zvin Tryz.func6 Tryz.ntmps6 ?_
    repeat' (first | refine zka ?_ | refine zkb ?_ | (apply RKp.op; ((try simp (disch := (first | omega | exact zX | exact zO | fail)) only [go_sem, Nat.reduceDiv, Nat.reduceMod, Nat.reduceAdd, Nat.reduceSub, Nat.reduceEqDiff, Nat.reduceLeDiff, Nat.reduceLT, Nat.reduceMul, reduceIte, Nat.reducePow, Int.reduceEq]); exact zL); rfl) | (apply RKp.call; (apply hbe <;> (exact zD)); rfl) | (apply RKp.callR; ((first | apply hbe | apply hD | apply hR | apply hN) <;> (exact zD)); rfl; intro tr htr) | (apply RKp.callO; (apply hbe <;> (exact zD)); rfl; intro tr) | (apply RKp.callRE; (apply hbe <;> (exact zD)); (intro x; rfl)) | (apply RKp.callE; (apply hbe <;> (exact zD)); (intro x; rfl)) | refine zkc ?_ | apply RKg.tt | apply RKg.ff | refine zkd ?_ | refine zke ?_ | refine zkf ?_ | (refine RKg.split (fun h => ?_) (fun h => ?_) <;> (try rw [h]) <;> (replace h := zB h) <;> (try (exfalso; first | exact h | omega))) | apply RK.nil | apply V.sq | apply V.bl | apply V.sc | apply V.skip | apply V.label | apply V.ret | apply V.exit | apply SeqQ.normal | apply SeqQ.ret | apply SeqQ.exit | apply BlockQ.normal | apply BlockQ.ret | apply BlockQ.here | refine zbt ?_ | apply LoopS.ret | apply LoopS.exit | apply LoopF.ret | apply LoopF.exit | apply V.regK | refine zva ?_ | refine zvb ?_ | refine zgc ?_ | refine zvd ?_ | refine zve ?_ | (refine zvf (fun h => ?_) (fun h => ?_) <;> (replace h := zB h) <;> (try (exfalso; first | exact h | omega))) | (refine zfc Tryz.results6 ?_; (try dsimp only)))
    all_goals first
      | (exfalso; simp at h; done)
      | skip
    apply V.lpS [8, 7, 4, 30, 31, 32, 33, 34, 35, 36, 37, 38, 39, 40, 41, 42, 43, 44, 45, 46, 47, 48, 49, 50, 51, 52, 53, 54, 55, 56, 57, 58, 59, 60, 61, 62, 63, 64, 65, 66, 67] (fun k xs H2 => ∃ (i : Nat) (b : Bool) (g : _), xs = .v (.int .i64 i) :: .v (.bool b) :: g ∧ k = n - i ∧ i ≤ n ∧ (b = true ↔ ∃ j, j < i ∧ K.getD j ByteArray.empty = key)) n
    focus (intro xs; simp only [putMany, set2, Nat.reduceAdd, Nat.reduceDiv, Nat.reduceMod, nth_zero, nth_succ, List.set_cons_zero, List.set_cons_succ]; rfl)
    focus (first | rfl | simp only [readMany, nth_zero, nth_succ, Nat.reduceDiv, Nat.reduceMod])
    · exact ⟨0, false, _, rfl, rfl, Nat.zero_le _, Iff.intro (fun z => Bool.noConfusion z) (fun ⟨j, hj, _⟩ => absurd hj (Nat.not_lt_zero _))⟩
    · rintro k xs H2 ⟨i, b, g, rfl, rfl, hi, hb⟩
      by_cases hlt : i < n
      · have e1 : ((i : Int) - 1).toNat = i - 1 := by omega
        have hz0 := hnz i hlt
        have hqB : ((K.getD i ByteArray.empty).toList == key.toList) = decide (K.getD i ByteArray.empty = key) := ba_eq _ _
        have hst : ∀ b', (b' = true ↔ b = true ∨ K.getD i ByteArray.empty = key) → (b' = true ↔ ∃ j, j < i + 1 ∧ K.getD j ByteArray.empty = key) := fun b' h => by
          rw [h, hb]
          constructor
          · rintro (⟨j, hj, e⟩ | e)
            · exact ⟨j, by omega, e⟩
            · exact ⟨i, by omega, e⟩
          · rintro ⟨j, hj, e⟩
            by_cases q : j < i
            · exact .inl ⟨j, q, e⟩
            · have : j = i := by omega
              subst this; exact .inr e
        have hlq1 := fun z => hlq i z hlt
        have hst1 := hst (b || decide (K.getD i ByteArray.empty = key)) (by rw [Bool.or_eq_true, decide_eq_true_iff])
        repeat' (first | refine zka ?_ | refine zkb ?_ | (apply RKp.op; ((try simp (disch := (first | omega | exact zX | exact zO | fail)) only [lnY, ixY, ldY, e1, hqB, Int.toNat_natCast, go_sem, Nat.reduceDiv, Nat.reduceMod, Nat.reduceAdd, Nat.reduceSub, Nat.reduceEqDiff, Nat.reduceLeDiff, Nat.reduceLT, Nat.reduceMul, reduceIte, Nat.reducePow, Int.reduceEq]); exact zL); rfl) | (apply RKp.callR; (apply hR <;> (exact zD)); rfl; intro tr htr) | refine zkc ?_ | apply RKg.tt | apply RKg.ff | refine zkd ?_ | refine zke ?_ | refine zkf ?_ | (refine RKg.split (fun h => ?_) (fun h => ?_) <;> (try rw [h]) <;> (replace h := zB h) <;> (try (exfalso; first | exact h | omega))) | apply RK.nil | apply V.sq | apply V.bl | apply V.sc | apply V.skip | apply V.label | apply V.ret | apply V.exit | apply SeqQ.normal | apply SeqQ.ret | apply SeqQ.exit | apply BlockQ.normal | apply BlockQ.ret | apply BlockQ.here | refine zbt ?_ | apply LoopS.ret | apply LoopS.exit | apply LoopF.ret | apply LoopF.exit | apply V.regK | refine zva ?_ | refine zvb ?_ | refine zgc ?_ | refine zvd ?_ | refine zve ?_ | (refine zvf (fun h => ?_) (fun h => ?_) <;> (replace h := zB h) <;> (try (exfalso; first | exact h | omega))) | (refine zfc Tryz.results6 ?_; (try dsimp only)))
        all_goals first
          | (exfalso; omega)
          | (exfalso; have := hlq1 (by omega); rw [Bool.or_eq_true_iff.2 ‹_ ∨ _›] at this; cases this)
          | exact LoopS.again (n - (i + 1)) (by rfl) (by omega) ⟨i + 1, true, _, rfl, rfl, by omega, hst true ⟨fun _ => .inl ‹b = true›, fun _ => rfl⟩⟩
          | exact LoopS.again (n - (i + 1)) (by rfl) (by omega) ⟨i + 1, decide (K.getD i ByteArray.empty = key), _, rfl, rfl, by omega, hst _ ⟨fun z => .inr (of_decide_eq_true z), fun z => z.elim (fun y => absurd (y.symm.trans ‹b = false›) (by decide)) decide_eq_true⟩⟩
          | exact LoopS.again (n - (i + 1)) (by rfl) (by omega) ⟨i + 1, _, _, rfl, rfl, by omega, hst _ ⟨fun z => .inr (of_decide_eq_true (hqB.symm.trans z)), fun z => z.elim (fun y => absurd (y.symm.trans ‹b = false›) (by decide)) (fun y => hqB.trans (decide_eq_true y))⟩⟩
          | trace_state
      · have hbf : b = !decide ((refD L key : Int) = 0) := by
          have : b = true ↔ ¬ ((refD L key : Int) = 0) := by
            rw [hb]
            have : i = n := by omega
            rw [this, ← hin]; omega
          by_cases z : (refD L key : Int) = 0
          · rw [decide_eq_true z]
            cases hb2 : b with
            | true => exact absurd z (this.1 hb2)
            | false => rfl
          · rw [decide_eq_false z]; exact this.2 z
        repeat' (first | refine zka ?_ | refine zkb ?_ | (apply RKp.op; ((try simp (disch := (first | omega | exact zX | exact zO | fail)) only [lnY, go_sem, Nat.reduceDiv, Nat.reduceMod, Nat.reduceAdd, Nat.reduceSub, Nat.reduceEqDiff, Nat.reduceLeDiff, Nat.reduceLT, Nat.reduceMul, reduceIte, Nat.reducePow, Int.reduceEq]); exact zL); rfl) | (apply RKp.callR; ((first | apply hD | apply hR) <;> (exact zD)); rfl; intro tr htr) | refine zkc ?_ | apply RKg.tt | apply RKg.ff | refine zkd ?_ | refine zke ?_ | refine zkf ?_ | (refine RKg.split (fun h => ?_) (fun h => ?_) <;> (try rw [h]) <;> (replace h := zB h) <;> (try (exfalso; first | exact h | omega))) | apply RK.nil | apply V.sq | apply V.bl | apply V.sc | apply V.skip | apply V.label | apply V.ret | apply V.exit | apply SeqQ.normal | apply SeqQ.ret | apply SeqQ.exit | apply BlockQ.normal | apply BlockQ.ret | apply BlockQ.here | refine zbt ?_ | apply LoopS.ret | apply LoopS.exit | apply LoopF.ret | apply LoopF.exit | apply V.regK | refine zva ?_ | refine zvb ?_ | refine zgc ?_ | refine zvd ?_ | refine zve ?_ | (refine zvf (fun h => ?_) (fun h => ?_) <;> (replace h := zB h) <;> (try (exfalso; first | exact h | omega))) | (refine zfc Tryz.results6 ?_; (try dsimp only)))
        all_goals first
          | (exfalso; omega)
          | (rw [← hbf]; simp; done)
          | trace_state
  · by_cases h2 : t = 2
    · subst h2
      have hD : ∀ ys G, CallRo (ELo oc) ys 0 16 [.v (.int .i64 2), .v (.string key)] G (.v (.int .i64 (refD emL key : Nat))) := fun ys G => hD2 ys 0 G
      have hR : ∀ ys G s, CallRo (ELo oc) ys 0 17 [.v (.int .i64 2), .v (.string s)] G (.v (.int .i64 (refD emL s : Nat))) := fun ys G s => refDeedE_run (ys := ys) (lo := 0) (H := G) s
      have hN : ∀ ys G, CallRo (ELo oc) ys 0 18 [.v (.int .i64 2)] G (.sl 1 (strE emK)) := fun ys G => hN2 ys 0 G
      have hin := has_em key
      have hnz := nz_em
      have hlq := leq_em
      obtain ⟨n, hn⟩ : ∃ n, n = 22 := ⟨_, rfl⟩
      obtain ⟨K, hK⟩ : ∃ K, K = emK := ⟨_, rfl⟩
      obtain ⟨L, hL⟩ : ∃ L, L = emL := ⟨_, rfl⟩
      have hKn : K.length = n := by rw [hK, hn]; rfl
      rw [← hL] at hin hD hR hnz
      rw [← hK] at hin hN hnz hlq
      rw [← hn] at hin hnz hlq
      have hn30 : n ≤ 26 := by omega
      clear hn hK hL
      have hz1 : ∀ es : List (List AV), rdTr (.sl 1 es) = ⟨0, 0, 0⟩ := fun es => rfl
      have hy1 : ∀ G, SlH G 1 (.sl 1 (strE K)) (strE K) := fun G => .inl (.inl rfl)
      generalize hy : AV.sl 1 (strE K) = y at *
      have hzy : rdTr y = ⟨0, 0, 0⟩ := by rw [← hy]; rfl
      have lnY : ∀ G, primL 0 G (builtinA (ELo oc) .len #[38] 3 [y]) = some (.v (.int .i64 n), G, ⟨0, 0, 0⟩) := fun G => by
        have := len_SlH (ELo oc) 0 38 3 (hy1 G) (by kernel_rfl)
        rw [strE_len, hKn, hzy] at this; exact this
      have ixY : ∀ G (z : Int), 0 ≤ z → z < n → primL 0 G (indexAddrA (ELo oc) 38 y (.v (.int .i64 z))) = some (ixA y (strE K) z.toNat, G, ⟨0, 0, 0⟩) := fun G z z0 z1 => by rw [ix_SlH (ELo oc) 0 38 .i64 z (hy1 G) (by kernel_rfl) z0 (by rw [strE_len, hKn]; exact z1), hzy]
      have ldY : ∀ G j, j < n → primL 0 G (loadA (ELo oc) 9 (ixA y (strE K) j)) = some (.v (.string (K.getD j ByteArray.empty)), G, ⟨0, 0, 0⟩) := fun G j hj => by
        rw [load_SlH (ELo oc) 0 9 j (hy1 G) (by rw [strE_len, hKn]; exact hj), nth_strE K j (by omega), hzy]; rfl
      refine zvin Tryz.func6 Tryz.ntmps6 ?_
      repeat' (first | refine zka ?_ | refine zkb ?_ | (apply RKp.op; ((try simp (disch := (first | omega | exact zX | exact zO | fail)) only [go_sem, Nat.reduceDiv, Nat.reduceMod, Nat.reduceAdd, Nat.reduceSub, Nat.reduceEqDiff, Nat.reduceLeDiff, Nat.reduceLT, Nat.reduceMul, reduceIte, Nat.reducePow, Int.reduceEq]); exact zL); rfl) | (apply RKp.call; (apply hbe <;> (exact zD)); rfl) | (apply RKp.callR; ((first | apply hbe | apply hD | apply hR | apply hN) <;> (exact zD)); rfl; intro tr htr) | (apply RKp.callO; (apply hbe <;> (exact zD)); rfl; intro tr) | (apply RKp.callRE; (apply hbe <;> (exact zD)); (intro x; rfl)) | (apply RKp.callE; (apply hbe <;> (exact zD)); (intro x; rfl)) | refine zkc ?_ | apply RKg.tt | apply RKg.ff | refine zkd ?_ | refine zke ?_ | refine zkf ?_ | (refine RKg.split (fun h => ?_) (fun h => ?_) <;> (try rw [h]) <;> (replace h := zB h) <;> (try (exfalso; first | exact h | omega))) | apply RK.nil | apply V.sq | apply V.bl | apply V.sc | apply V.skip | apply V.label | apply V.ret | apply V.exit | apply SeqQ.normal | apply SeqQ.ret | apply SeqQ.exit | apply BlockQ.normal | apply BlockQ.ret | apply BlockQ.here | refine zbt ?_ | apply LoopS.ret | apply LoopS.exit | apply LoopF.ret | apply LoopF.exit | apply V.regK | refine zva ?_ | refine zvb ?_ | refine zgc ?_ | refine zvd ?_ | refine zve ?_ | (refine zvf (fun h => ?_) (fun h => ?_) <;> (replace h := zB h) <;> (try (exfalso; first | exact h | omega))) | (refine zfc Tryz.results6 ?_; (try dsimp only)))
      all_goals first
        | (exfalso; simp at h; done)
        | skip
      apply V.lpS [8, 7, 4, 30, 31, 32, 33, 34, 35, 36, 37, 38, 39, 40, 41, 42, 43, 44, 45, 46, 47, 48, 49, 50, 51, 52, 53, 54, 55, 56, 57, 58, 59, 60, 61, 62, 63, 64, 65, 66, 67] (fun k xs H2 => ∃ (i : Nat) (b : Bool) (g : _), xs = .v (.int .i64 i) :: .v (.bool b) :: g ∧ k = n - i ∧ i ≤ n ∧ (b = true ↔ ∃ j, j < i ∧ K.getD j ByteArray.empty = key)) n
      focus (intro xs; simp only [putMany, set2, Nat.reduceAdd, Nat.reduceDiv, Nat.reduceMod, nth_zero, nth_succ, List.set_cons_zero, List.set_cons_succ]; rfl)
      focus (first | rfl | simp only [readMany, nth_zero, nth_succ, Nat.reduceDiv, Nat.reduceMod])
      · exact ⟨0, false, _, rfl, rfl, Nat.zero_le _, Iff.intro (fun z => Bool.noConfusion z) (fun ⟨j, hj, _⟩ => absurd hj (Nat.not_lt_zero _))⟩
      · rintro k xs H2 ⟨i, b, g, rfl, rfl, hi, hb⟩
        by_cases hlt : i < n
        · have e1 : ((i : Int) - 1).toNat = i - 1 := by omega
          have hz0 := hnz i hlt
          have hqB : ((K.getD i ByteArray.empty).toList == key.toList) = decide (K.getD i ByteArray.empty = key) := ba_eq _ _
          have hst : ∀ b', (b' = true ↔ b = true ∨ K.getD i ByteArray.empty = key) → (b' = true ↔ ∃ j, j < i + 1 ∧ K.getD j ByteArray.empty = key) := fun b' h => by
            rw [h, hb]
            constructor
            · rintro (⟨j, hj, e⟩ | e)
              · exact ⟨j, by omega, e⟩
              · exact ⟨i, by omega, e⟩
            · rintro ⟨j, hj, e⟩
              by_cases q : j < i
              · exact .inl ⟨j, q, e⟩
              · have : j = i := by omega
                subst this; exact .inr e
          have hlq1 := fun z => hlq i z hlt
          have hst1 := hst (b || decide (K.getD i ByteArray.empty = key)) (by rw [Bool.or_eq_true, decide_eq_true_iff])
          repeat' (first | refine zka ?_ | refine zkb ?_ | (apply RKp.op; ((try simp (disch := (first | omega | exact zX | exact zO | fail)) only [lnY, ixY, ldY, e1, hqB, Int.toNat_natCast, go_sem, Nat.reduceDiv, Nat.reduceMod, Nat.reduceAdd, Nat.reduceSub, Nat.reduceEqDiff, Nat.reduceLeDiff, Nat.reduceLT, Nat.reduceMul, reduceIte, Nat.reducePow, Int.reduceEq]); exact zL); rfl) | (apply RKp.callR; (apply hR <;> (exact zD)); rfl; intro tr htr) | refine zkc ?_ | apply RKg.tt | apply RKg.ff | refine zkd ?_ | refine zke ?_ | refine zkf ?_ | (refine RKg.split (fun h => ?_) (fun h => ?_) <;> (try rw [h]) <;> (replace h := zB h) <;> (try (exfalso; first | exact h | omega))) | apply RK.nil | apply V.sq | apply V.bl | apply V.sc | apply V.skip | apply V.label | apply V.ret | apply V.exit | apply SeqQ.normal | apply SeqQ.ret | apply SeqQ.exit | apply BlockQ.normal | apply BlockQ.ret | apply BlockQ.here | refine zbt ?_ | apply LoopS.ret | apply LoopS.exit | apply LoopF.ret | apply LoopF.exit | apply V.regK | refine zva ?_ | refine zvb ?_ | refine zgc ?_ | refine zvd ?_ | refine zve ?_ | (refine zvf (fun h => ?_) (fun h => ?_) <;> (replace h := zB h) <;> (try (exfalso; first | exact h | omega))) | (refine zfc Tryz.results6 ?_; (try dsimp only)))
          all_goals first
            | (exfalso; omega)
            | (exfalso; have := hlq1 (by omega); rw [Bool.or_eq_true_iff.2 ‹_ ∨ _›] at this; cases this)
            | exact LoopS.again (n - (i + 1)) (by rfl) (by omega) ⟨i + 1, true, _, rfl, rfl, by omega, hst true ⟨fun _ => .inl ‹b = true›, fun _ => rfl⟩⟩
            | exact LoopS.again (n - (i + 1)) (by rfl) (by omega) ⟨i + 1, decide (K.getD i ByteArray.empty = key), _, rfl, rfl, by omega, hst _ ⟨fun z => .inr (of_decide_eq_true z), fun z => z.elim (fun y => absurd (y.symm.trans ‹b = false›) (by decide)) decide_eq_true⟩⟩
            | exact LoopS.again (n - (i + 1)) (by rfl) (by omega) ⟨i + 1, _, _, rfl, rfl, by omega, hst _ ⟨fun z => .inr (of_decide_eq_true (hqB.symm.trans z)), fun z => z.elim (fun y => absurd (y.symm.trans ‹b = false›) (by decide)) (fun y => hqB.trans (decide_eq_true y))⟩⟩
            | trace_state
        · have hbf : b = !decide ((refD L key : Int) = 0) := by
            have : b = true ↔ ¬ ((refD L key : Int) = 0) := by
              rw [hb]
              have : i = n := by omega
              rw [this, ← hin]; omega
            by_cases z : (refD L key : Int) = 0
            · rw [decide_eq_true z]
              cases hb2 : b with
              | true => exact absurd z (this.1 hb2)
              | false => rfl
            · rw [decide_eq_false z]; exact this.2 z
          repeat' (first | refine zka ?_ | refine zkb ?_ | (apply RKp.op; ((try simp (disch := (first | omega | exact zX | exact zO | fail)) only [lnY, go_sem, Nat.reduceDiv, Nat.reduceMod, Nat.reduceAdd, Nat.reduceSub, Nat.reduceEqDiff, Nat.reduceLeDiff, Nat.reduceLT, Nat.reduceMul, reduceIte, Nat.reducePow, Int.reduceEq]); exact zL); rfl) | (apply RKp.callR; ((first | apply hD | apply hR) <;> (exact zD)); rfl; intro tr htr) | refine zkc ?_ | apply RKg.tt | apply RKg.ff | refine zkd ?_ | refine zke ?_ | refine zkf ?_ | (refine RKg.split (fun h => ?_) (fun h => ?_) <;> (try rw [h]) <;> (replace h := zB h) <;> (try (exfalso; first | exact h | omega))) | apply RK.nil | apply V.sq | apply V.bl | apply V.sc | apply V.skip | apply V.label | apply V.ret | apply V.exit | apply SeqQ.normal | apply SeqQ.ret | apply SeqQ.exit | apply BlockQ.normal | apply BlockQ.ret | apply BlockQ.here | refine zbt ?_ | apply LoopS.ret | apply LoopS.exit | apply LoopF.ret | apply LoopF.exit | apply V.regK | refine zva ?_ | refine zvb ?_ | refine zgc ?_ | refine zvd ?_ | refine zve ?_ | (refine zvf (fun h => ?_) (fun h => ?_) <;> (replace h := zB h) <;> (try (exfalso; first | exact h | omega))) | (refine zfc Tryz.results6 ?_; (try dsimp only)))
          all_goals first
            | (exfalso; omega)
            | (rw [← hbf]; simp; done)
            | trace_state
    · have hD : ∀ ys G, CallRo (ELo oc) ys 0 16 [.v (.int .i64 t), .v (.string key)] G (.v (.int .i64 0)) := fun ys G => hD0 ys 0 G h1 h2
      have hR : ∀ ys G, CallRo (ELo oc) ys 0 17 [.v (.int .i64 t), .v (.string key)] G (.v (.int .i64 0)) := fun ys G => refDeedN_run (ys := ys) (lo := 0) (H := G) t h1 h2 key
      have hN : ∀ ys G, CallRo (ELo oc) ys 0 18 [.v (.int .i64 t)] G nilA := fun ys G => hN0 ys 0 G h1 h2
      unfold nilA at hN
      refine zvin Tryz.func6 Tryz.ntmps6 ?_
      repeat' (first | refine zka ?_ | refine zkb ?_ | (apply RKp.op; ((try simp (disch := (first | omega | exact zX | exact zO | fail)) only [go_sem, Nat.reduceDiv, Nat.reduceMod, Nat.reduceAdd, Nat.reduceSub, Nat.reduceEqDiff, Nat.reduceLeDiff, Nat.reduceLT, Nat.reduceMul, reduceIte, Nat.reducePow, Int.reduceEq]); exact zL); rfl) | (apply RKp.call; (apply hbe <;> (exact zD)); rfl) | (apply RKp.callR; ((first | apply hbe | apply hD | apply hR | apply hN) <;> (exact zD)); rfl; intro tr htr) | (apply RKp.callO; (apply hbe <;> (exact zD)); rfl; intro tr) | (apply RKp.callRE; (apply hbe <;> (exact zD)); (intro x; rfl)) | (apply RKp.callE; (apply hbe <;> (exact zD)); (intro x; rfl)) | refine zkc ?_ | apply RKg.tt | apply RKg.ff | refine zkd ?_ | refine zke ?_ | refine zkf ?_ | (refine RKg.split (fun h => ?_) (fun h => ?_) <;> (try rw [h]) <;> (replace h := zB h) <;> (try (exfalso; first | exact h | omega))) | apply RK.nil | apply V.sq | apply V.bl | apply V.sc | apply V.skip | apply V.label | apply V.ret | apply V.exit | apply SeqQ.normal | apply SeqQ.ret | apply SeqQ.exit | apply BlockQ.normal | apply BlockQ.ret | apply BlockQ.here | refine zbt ?_ | apply LoopS.ret | apply LoopS.exit | apply LoopF.ret | apply LoopF.exit | apply V.regK | refine zva ?_ | refine zvb ?_ | refine zgc ?_ | refine zvd ?_ | refine zve ?_ | (refine zvf (fun h => ?_) (fun h => ?_) <;> (replace h := zB h) <;> (try (exfalso; first | exact h | omega))) | (refine zfc Tryz.results6 ?_; (try dsimp only)))
      all_goals first
        | (exfalso; omega)
        | rfl
        | trace_state
end
end Go.Am
