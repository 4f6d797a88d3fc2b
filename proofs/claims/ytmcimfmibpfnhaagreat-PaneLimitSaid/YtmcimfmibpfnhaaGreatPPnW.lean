
/- A pane: Write. -/
import Derived.Test.YtmcimfmibpfnhaaGreatPPnB
set_option linter.all false
set_option linter.deprecated false
namespace Go.Am
variable {oc : Orc} [OrcI oc] [OrcF oc]
open Go.Proofs
set_option maxRecDepth 8000
set_option maxHeartbeats 8000000
section
variable {ys : List (Nat × LRec)} {H : AHeap} {n : Nat} {x : Pn} {U : Nat → Prop}

/-- The loop's state in Write. -/
def PW (H0 : AHeap) (U : Nat → Prop) (n : Nat) (H : AHeap) (x : Pn) (o : AV) (os : List ByteArray) (Z : Nat → Prop) : Prop :=
  ∃ F G C A X any sp sm se, PC H F G C A X any sp sm se n x ∧ Kp H0 H U (ownP F G C.sn sm) ∧ OwS H H0.next 9 1 o (strsE os) ∧ (∀ k, nmO o k ∨ Z k → ¬ ownP F G C.sn sm k ∧ k < H.next)
theorem PW.lt {H0 H2 : AHeap} {o : AV} {os : List ByteArray} {Z : Nat → Prop} (h : PW H0 U n H2 x o os Z) : H0.next ≤ H2.next := by
  obtain ⟨F, G, C, A, X, any, sp, sm, se, h1, h2, h3, h4⟩ := h
  exact h2.next
theorem Write_run (hV : PV H U n x) {b0 : Nat} (hg : PnG x b0) (s : ByteArray) (hs : b0 + 2 * s.size < 2 ^ 18) : CallE (ELo oc) ys 0 46 [.op n 0 0 0, .v (.string s)] H fun R H' => SlH H' 1 R (strsE (x.write (byL s)).2) ∧ (∀ k, nmO R k → H.next ≤ k ∧ k < H'.next) ∧ PV H' (fun k => grow U H H' k ∧ ¬ nmO R k) n (x.write (byL s)).1 ∧ Turn U H H' := by
  refine WC.effE rfl ?_
  have hbl := byL_len s
  have hix : ∀ i : Nat, i < s.size → ∀ G, primL 0 G (indexA (ELo oc) 9 (.v (.string s)) (.v (.int .i64 (i : Int)))) = some (.v (.int .u8 ((byL s).getD i 0)), G, ⟨0, 0, 0⟩) := fun i hi G => by
    rw [index_strD (ELo oc) 0 G 9 s .i64 i (by kernel_rfl) (decide_eq_true (by omega)), byL_at s i hi]
  obtain ⟨hVe, hVl⟩ := hV
  obtain ⟨F0, G0, C0, A0, X0, any0, sp0, sm0, se0, hP0, hU0⟩ := hVe
  have hnn := hP0.p.lt
  have hb0 := hP0.p.blk
  unfold pBlkE at hb0
  refine zvin Tryz.func46 Tryz.ntmps46 ?_
  repeat' (first | refine zka ?_ | refine zkb ?_ | (apply RKp.op; ((try simp (disch := (first | exact zQ | fail)) only [hb0, go_sem]); exact zL); rfl) | refine zkc ?_ | refine zz ?_ | refine zkd ?_ | refine zke ?_ | refine zkf ?_ | (refine RKg.split (fun h => ?_) (fun h => ?_) <;> (try rw [h]) <;> (replace h := zB h) <;> (try (exfalso; first | exact h | omega))) | refine zbt ?_ | apply V.regK | refine zva ?_ | refine zvb ?_ | refine zgc ?_ | refine zvd ?_ | refine zve ?_ | (refine zvf (fun h => ?_) (fun h => ?_) <;> (replace h := zB h) <;> (try (exfalso; first | exact h | omega))) | (refine zfc Tryz.results46 ?_; (try dsimp only)))
  apply V.lpS [17, 5, 6, 8, 10, 12, 18, 19, 20, 21, 22, 23, 24, 25, 26, 27, 28, 29, 30, 31, 32, 33, 34, 35, 36, 37, 38, 39, 40, 41, 42, 43, 44, 45, 46, 47, 48, 49, 50, 51, 52, 53, 54, 55, 56, 57, 58, 59, 60, 61, 62, 63, 64, 65, 66, 67, 68, 69, 70] (fun k xs H2 => ∃ (i : Nat) (o : AV) (g : _), xs = .v (.int .i64 i) :: o :: g ∧ k = s.size - i ∧ i ≤ s.size ∧ PW H U n H2 (x.write ((byL s).take i)).1 o (x.write ((byL s).take i)).2 (fun _ => False)) s.size
  focus (intro xs; simp only [putMany, set2, Nat.reduceAdd, Nat.reduceDiv, Nat.reduceMod, nth_zero, nth_succ, List.set_cons_zero, List.set_cons_succ]; rfl)
  focus (first | rfl | simp only [readMany, nth_zero, nth_succ, Nat.reduceDiv, Nat.reduceMod])
  · exact ⟨0, _, _, rfl, rfl, Nat.zero_le _, F0, G0, C0, A0, X0, any0, sp0, sm0, se0, hP0, ⟨Nat.le_refl _, rfl, fun _ _ _ => rfl, fun k hk => .inl (hU0 k hk)⟩, OwS.nil _ _ _ _, fun k hk => by rcases hk with ⟨_, _, _, z⟩ | z; cases z; exact z.elim⟩
  · rintro k xs H2 ⟨i, o, g, rfl, rfl, hi, hPW⟩
    have hn2 := hPW.lt
    by_cases hlt : i < s.size
    · have htk := take_snoc (byL s) (0 : Int) (by rw [hbl]; exact hlt : i < (byL s).length)
      have hws := Pn.write_snoc x ((byL s).take i) ((byL s).getD i 0)
      rw [← htk] at hws
      have hgi := PnG.write ((byL s).take i) (fun c hc => byL_bd s c (List.mem_of_mem_take hc)) x b0 hg
      rw [List.length_take, hbl, Nat.min_eq_left hi] at hgi
      have hcb := byL_bd s _ (getMemK (0 : Int) (by rw [hbl]; exact hlt : i < (byL s).length))
      have hixi := hix i hlt
      generalize (byL s).getD i 0 = c at *
      have hol1 := Pn.write_len ((byL s).take i) (fun c hc => byL_bd s c (List.mem_of_mem_take hc)) x b0 hg
      rw [List.length_take, hbl, Nat.min_eq_left hi] at hol1
      generalize x.write ((byL s).take i) = yy at *
      obtain ⟨y, os⟩ := yy
      dsimp only at hPW hgi hws hol1
      obtain ⟨F, G, C, A, X, any, sp, sm, se, hP, hK, hO, hZ⟩ := hPW
      obtain ⟨hsl, hsb⟩ := stepU_out hgi.pend hcb
      have hU := fun ys => WC.effE (E := (ELo oc)) (f := 83) rfl (uPut_wc (ys := ys) (lo := 0) (Nat.zero_le _) hP.p.lt hP.p.blk hP.u hgi.pend c hcb)
      have hb2 := hP.p.blk
      unfold pBlkE at hb2
      repeat' (first | refine zka ?_ | refine zkb ?_ | (apply RKp.op; ((try simp (disch := (first | exact zQ | fail)) only [hb2, hixi, go_sem]); exact zL); rfl) | (apply RKp.call; (apply hU <;> (exact zD)); rfl) | (apply RKp.callR; (apply hU <;> (exact zD)); rfl; intro tr htr) | (apply RKp.callO; (apply hU <;> (exact zD)); rfl; intro tr) | (apply RKp.callRE; (apply hU <;> (exact zD)); (intro x; rfl)) | (apply RKp.callE; (apply hU <;> (exact zD)); (intro x; rfl)) | refine zkc ?_ | refine zz ?_ | refine zkd ?_ | refine zke ?_ | refine zkf ?_ | (refine RKg.split (fun h => ?_) (fun h => ?_) <;> (try rw [h]) <;> (replace h := zB h) <;> (try (exfalso; first | exact h | omega))) | refine zbt ?_ | apply V.regK | refine zva ?_ | refine zvb ?_ | refine zgc ?_ | refine zvd ?_ | refine zve ?_ | (refine zvf (fun h => ?_) (fun h => ?_) <;> (replace h := zB h) <;> (try (exfalso; first | exact h | omega))) | (refine zfc Tryz.results46 ?_; (try dsimp only)))
      rintro R H3 tr3 hU3
      obtain ⟨C3, q1, q2, hP3, hK3⟩ := hP.utf hU3
      obtain ⟨hO3, hZ3, hK03⟩ := hK.stp hK3 hO hZ
      have hR3 := hU3.ow
      have hRn : ∀ k, nmO R k → H2.next ≤ k ∧ k < H3.next := fun k hk => ((OwnS.self hR3).2 k hk).1
      have hZR : ∀ k, nmO o k ∨ nmO R k → ¬ ownP F G C3.sn sm k ∧ k < H3.next := by
        rintro k (z | z)
        · exact hZ3 k (.inl z)
        · refine ⟨fun w => ?_, (hRn k z).2⟩
          rw [q1] at w
          have := hP.lt k w
          have := (hRn k z).1; omega
      have hslR := hR3.slh
      have hg3 : PnG { y with p := (stepU y.p c).1 } (b0 + 2 * i) := hgi.p (stepU_pend hgi.pend c)
      have hby : y.byte c = Pn.runes { y with p := (stepU y.p c).1 } (stepU y.p c).2 := rfl
      rw [hby] at hws
      generalize (stepU y.p c).2 = rs at *
      have lnR := fun G (hx : Ext H3 G) => len_SlH (ELo oc) 0 88 3 (hslR.ext hx) (by kernel_rfl)
      rw [runes_len] at lnR
      generalize hy3 : ({ y with p := (stepU y.p c).1 } : Pn) = y3 at *
      repeat' (first | refine zka ?_ | refine zkb ?_ | (apply RKp.op; ((try simp (disch := (first | exact zQ | fail)) only [lnR, go_sem]); exact zL); rfl) | refine zkc ?_ | refine zz ?_ | refine zkd ?_ | refine zke ?_ | refine zkf ?_ | (refine RKg.split (fun h => ?_) (fun h => ?_) <;> (try rw [h]) <;> (replace h := zB h) <;> (try (exfalso; first | exact h | omega))) | refine zbt ?_ | apply V.regK | refine zva ?_ | refine zvb ?_ | refine zgc ?_ | refine zvd ?_ | refine zve ?_ | (refine zvf (fun h => ?_) (fun h => ?_) <;> (replace h := zB h) <;> (try (exfalso; first | exact h | omega))) | (refine zfc Tryz.results46 ?_; (try dsimp only)))
      apply V.lpS [28, 5, 8, 10, 12, 29, 30, 31, 32, 33, 34, 35, 36, 37, 38, 39, 40, 41, 42, 43, 44, 45, 46, 47, 48, 49, 50, 51, 52, 53, 54, 55, 56, 57, 58, 59, 60, 61, 62, 63, 64, 65, 66, 67, 68, 69] (fun k xs H4 => ∃ (j : Nat) (o2 : AV) (g2 : _), xs = .v (.int .i64 j) :: o2 :: g2 ∧ k = rs.length - j ∧ j ≤ rs.length ∧ PW H U n H4 (y3.runes (rs.take j)).1 o2 (os ++ (y3.runes (rs.take j)).2) (nmO R) ∧ SlH H4 1 R (runes rs) ∧ ∀ k, nmO R k → ¬ nmO o2 k) rs.length
      focus (intro xs; simp only [putMany, set2, Nat.reduceAdd, Nat.reduceDiv, Nat.reduceMod, nth_zero, nth_succ, List.set_cons_zero, List.set_cons_succ]; rfl)
      focus (first | rfl | simp only [readMany, nth_zero, nth_succ, Nat.reduceDiv, Nat.reduceMod])
      · exact ⟨0, _, _, rfl, rfl, Nat.zero_le _, ⟨F, G, C3, A, X, any, sp, sm, se, hP3, hK03, by rw [List.take_zero]; show OwS _ _ _ _ _ (strsE (os ++ [])); rw [List.append_nil]; exact hO3, hZR⟩, hslR, fun k hk z => by have := (hRn k hk).1; have := (hZ k (.inl z)).2; omega⟩
      · rintro k xs H4 ⟨j, o2, g2, rfl, rfl, hj, hPW4, hsl4, hRo4⟩
        have hn4 := hPW4.lt
        by_cases hjl : j < rs.length
        · have htj := take_snoc rs (0 : Int) hjl
          have hrs := Pn.runes_snoc y3 (rs.take j) (rs.getD j 0)
          rw [← htj] at hrs
          have hrb := hsb _ (getMemK (0 : Int) hjl)
          have hgz := PnG.runes (b := 0) (rs.take j) (fun r hr => by have := hsb r (List.mem_of_mem_take hr); omega) y3 (b0 + 2 * i) hg3
          rw [List.length_take, Nat.min_eq_left hj] at hgz
          have ixR := fun G (hx : Ext H4 G) => ix_SlH (ELo oc) 0 88 .i64 (j : Int) (hsl4.ext hx) (by kernel_rfl) (by omega) (by rw [runes_len]; omega)
          have ldR : ∀ G, Ext H4 G → primL 0 G (loadA (ELo oc) 21 (ixA R (runes rs) j)) = some (.v (.int .i32 (rs.getD j 0)), G, rdTr R) := fun G hx => by
            rw [load_SlH (ELo oc) 0 21 j (hsl4.ext hx) (by rw [runes_len]; exact hjl), nth_runes rs j hjl]; rfl
          rw [Int.toNat_natCast] at ixR
          generalize rs.getD j 0 = r at *
          have hol2 := Pn.runes_len (rs.take j) y3
          rw [List.length_take, Nat.min_eq_left hj] at hol2
          generalize y3.runes (rs.take j) = zz at *
          obtain ⟨z, o4⟩ := zz
          dsimp only at hPW4 hgz hrs hol2
          obtain ⟨F4, G4, C4, A4, X4, any4, sp4, sm4, se4, hP4, hK4, hO4, hZ4⟩ := hPW4
          have hpt := fun ys => WC.effE (E := (ELo oc)) (f := 84) rfl (eescPut_wc (ys := ys) (lo := 0) (fun _ _ => Nat.zero_le _) hP4.fl hP4.p r (by omega) (by have := hgz.tl; omega))
          have hb4 := hP4.p.blk
          unfold pBlkE at hb4
          repeat' (first | refine zka ?_ | refine zkb ?_ | (apply RKp.op; ((try simp (disch := (first | exact zQ | fail)) only [hb4, ixR, ldR, go_sem]); exact zL); rfl) | (apply RKp.call; (apply hpt <;> (exact zD)); rfl) | (apply RKp.callR; (apply hpt <;> (exact zD)); rfl; intro tr htr) | (apply RKp.callO; (apply hpt <;> (exact zD)); rfl; intro tr) | (apply RKp.callRE; (apply hpt <;> (exact zD)); (intro x; rfl)) | (apply RKp.callE; (apply hpt <;> (exact zD)); (intro x; rfl)) | refine zkc ?_ | refine zz ?_ | refine zkd ?_ | refine zke ?_ | refine zkf ?_ | (refine RKg.split (fun h => ?_) (fun h => ?_) <;> (try rw [h]) <;> (replace h := zB h) <;> (try (exfalso; first | exact h | omega))) | refine zbt ?_ | apply V.regK | refine zva ?_ | refine zvb ?_ | refine zgc ?_ | refine zvd ?_ | refine zve ?_ | (refine zvf (fun h => ?_) (fun h => ?_) <;> (replace h := zB h) <;> (try (exfalso; first | exact h | omega))) | (refine zfc Tryz.results46 ?_; (try dsimp only)))
          rintro R2 H5 tr5 ⟨hT5, ⟨A5, any5, sp5, X5, hPE5⟩, hE5⟩
          obtain ⟨hP5, hK5⟩ := hP4.put hT5 hPE5
          obtain ⟨hO5, hZ5, hK05⟩ := hK4.stp hK5 hO4 hZ4
          have hsl5 := hK5.slh hsl4 (fun k hk => (hZ4 k (.inr hk)).1)
          cases hev : (put z.w z.t r).2.2 with
          | none =>
            rw [hev] at hE5
            have hE5 : R2 = nilA := hE5
            subst hE5
            rw [Pn.rune_none hev] at hrs
            repeat' (first | refine zka ?_ | refine zkb ?_ | (apply RKp.op; ((try simp (disch := (first | exact zQ | fail)) only [go_sem]); exact zL); rfl) | refine zkc ?_ | refine zz ?_ | refine zkd ?_ | refine zke ?_ | refine zkf ?_ | (refine RKg.split (fun h => ?_) (fun h => ?_) <;> (try rw [h]) <;> (replace h := zB h) <;> (try (exfalso; first | exact h | omega))) | refine zbt ?_ | apply V.regK | refine zva ?_ | refine zvb ?_ | refine zgc ?_ | refine zvd ?_ | refine zve ?_ | (refine zvf (fun h => ?_) (fun h => ?_) <;> (replace h := zB h) <;> (try (exfalso; first | exact h | omega))) | (refine zfc Tryz.results46 ?_; (try dsimp only)))
            apply V.un
            repeat' (first | refine zka ?_ | refine zkb ?_ | (apply RKp.op; ((try simp (disch := (first | exact zQ | fail)) only [go_sem]); exact zL); rfl) | refine zkc ?_ | refine zz ?_ | refine zkd ?_ | refine zke ?_ | refine zkf ?_ | (refine RKg.split (fun h => ?_) (fun h => ?_) <;> (try rw [h]) <;> (replace h := zB h) <;> (try (exfalso; first | exact h | omega))) | refine zbt ?_ | apply V.regK | refine zva ?_ | refine zvb ?_ | refine zgc ?_ | refine zvd ?_ | refine zve ?_ | (refine zvf (fun h => ?_) (fun h => ?_) <;> (replace h := zB h) <;> (try (exfalso; first | exact h | omega))) | (refine zfc Tryz.results46 ?_; (try dsimp only)))
            refine LoopS.again (rs.length - (j + 1)) (by rfl) (by omega) ⟨j + 1, o2, _, rfl, rfl, by omega, ?_, hsl5, hRo4⟩
            rw [hrs]
            exact ⟨_, _, _, _, _, _, _, _, _, hP5, hK05, by rw [List.append_nil]; exact hO5, hZ5⟩
          | some e =>
            rw [hev] at hE5
            obtain ⟨q, Ae, rfl, hqF, hql, hqg, hAe, hAn⟩ := hE5
            obtain ⟨p1, p2, p3⟩ := put_ok3 z.w z.t r (by omega) e hev
            rw [Pn.rune_some hev] at hrs
            have hsE : SlH H5 4 (.os q 0 0 1) [[.v (.int .i64 e.kind), .v (.int .i32 e.r), Ae, .v (.string e.text)]] := .inr ⟨q, 0, 0, _, rfl, hql, hqg, rfl, rfl, rfl, by simp, by simp⟩
            have lnE := fun G (hx : Ext H5 G) => len_SlH (ELo oc) 0 118 3 (hsE.ext hx) (by kernel_rfl)
            have ixE := fun G (hx : Ext H5 G) => ix_SlH (ELo oc) 0 118 .i64 (0 : Int) (hsE.ext hx) (by kernel_rfl) (by omega) (by simp)
            have ldE : ∀ G, Ext H5 G → primL 0 G (loadA (ELo oc) 121 (ixA (.os q 0 0 1) [[.v (.int .i64 e.kind), .v (.int .i32 e.r), Ae, .v (.string e.text)]] 0)) = some (.agg [.v (.int .i64 e.kind), .v (.int .i32 e.r), Ae, .v (.string e.text)], G, rdTr (.os q 0 0 1)) := fun G hx => by
              rw [load_SlH (ELo oc) 0 121 0 (hsE.ext hx) (by simp)]; rfl
            dsimp only [Int.toNat_zero, List.length_cons, List.length_nil] at lnE ixE
            have hct := cells_SlH hAe
            have hP5b := hP5.push (evk e.kind e.r Ae e.text)
            have hAF : ∀ k, nameOf Ae k → grow F4 H4 H5 k := fun k ⟨_, _, _, h⟩ => hAn _ _ _ _ h
            have hAn6 : ∀ k, nameOf Ae k → k ≠ C4.sn ∧ k ≠ sm4 := fun k hk => ⟨fun z => hP5.d1 (z ▸ hAF k hk), fun z => hP5.d2 (z ▸ hAF k hk)⟩
            have h05 := hK05.next
            repeat' (first | refine zka ?_ | refine zkb ?_ | (apply RKp.op; ((try simp (disch := (first | exact zQ | fail)) only [lnE, go_sem]); exact zL); rfl) | refine zkc ?_ | refine zz ?_ | refine zkd ?_ | refine zke ?_ | refine zkf ?_ | (refine RKg.split (fun h => ?_) (fun h => ?_) <;> (try rw [h]) <;> (replace h := zB h) <;> (try (exfalso; first | exact h | omega))) | refine zbt ?_ | apply V.regK | refine zva ?_ | refine zvb ?_ | refine zgc ?_ | refine zvd ?_ | refine zve ?_ | (refine zvf (fun h => ?_) (fun h => ?_) <;> (replace h := zB h) <;> (try (exfalso; first | exact h | omega))) | (refine zfc Tryz.results46 ?_; (try dsimp only)))
            apply V.un
            by_cases hk4 : e.kind = 4
            · rw [if_pos hk4] at hrs
              obtain ⟨o6, H6, tr6, hap6, hO6, ht6, hn6⟩ := push1j (ELo oc) 0 (hO5.push (evk e.kind e.r Ae e.text)) app_str (Nat.zero_le _) (by (first | omega | (simp only [next_push, next_set, next_empty]; done) | (simp only [next_push, next_set, next_empty]; omega))) (by rw [strsE_len, List.length_append, roomMax]; omega) [.v (.string e.text)]
              rw [next_push] at hap6
              have hv6 : H6.get H5.next = some (evk e.kind e.r Ae e.text) := by rw [ht6.keep _ (by (first | omega | (simp only [next_push, next_set, next_empty]; done) | (simp only [next_push, next_set, next_empty]; omega))) (fun z => by have := (hZ5 _ (.inl z)).2; omega), get_push, if_pos rfl]
              unfold evk at hap6 hv6
              have hsl6 : SlH H6 1 R (runes rs) := (hsl5.push _).turn ht6 (fun k hk z => hRo4 k hk z)
              have hP6 := hP5b.off ht6 (fun k hk z => (hZ5 k (.inl z)).1 hk)
              obtain ⟨hK06, hZ6⟩ := Kp.app (hK05.push (evk e.kind e.r Ae e.text)) ht6 (fun k hk => (hO5.nm hk).1) (fun k hk => ⟨(hZ5 k hk).1, by have := (hZ5 k hk).2; (first | omega | (simp only [next_push, next_set, next_empty]; done) | (simp only [next_push, next_set, next_empty]; omega))⟩) hP5b.lt hn6
              have hA6 : SlH H6 1 Ae (ints e.args) := (hAe.push _).turn ht6 (fun k hk z => (hZ5 k (.inl z)).1 (.inl (hAF k hk)))
              have hRo6 : ∀ k, nmO R k → ¬ nmO o6 k := fun k hk z => by
                rcases (hn6 k z).1 with y | y
                · exact hRo4 k hk y
                · have := (hZ5 k (.inr hk)).2; rw [next_push] at y; omega
              have hO6 : OwS H6 H.next 9 1 o6 (strsE (os ++ (o4 ++ [e.text]))) := by rw [← List.append_assoc, strsE_app]; exact hO6
              repeat' (first | refine zka ?_ | refine zkb ?_ | (apply RKp.op; ((try simp (disch := (first | exact zQ | fail)) only [ixE, ldE, hap6, go_sem]); exact zL); rfl) | refine zkc ?_ | refine zz ?_ | refine zkd ?_ | refine zke ?_ | refine zkf ?_ | (refine RKg.split (fun h => ?_) (fun h => ?_) <;> (try rw [h]) <;> (replace h := zB h) <;> (try (exfalso; first | exact h | omega))) | refine zbt ?_ | apply V.regK | refine zva ?_ | refine zvb ?_ | refine zgc ?_ | refine zvd ?_ | refine zve ?_ | (refine zvf (fun h => ?_) (fun h => ?_) <;> (replace h := zB h) <;> (try (exfalso; first | exact h | omega))) | (refine zfc Tryz.results46 ?_; (try dsimp only)))
              have hb6 := hP6.p.blk
              unfold pBlkE at hb6
              have hD := fun ys => Do_run (ys := ys) hP6.s hgz.sg e.kind e.r p3 e.text hA6 hAn6 p2 p1
              repeat' (first | refine zka ?_ | refine zkb ?_ | (apply RKp.op; ((try simp (disch := (first | exact zQ | fail)) only [hb6, hv6, go_sem]); exact zL); rfl) | (apply RKp.callE; (apply hD <;> (exact zD)); (intro x; rfl)) | refine zkc ?_ | refine zz ?_ | refine zkd ?_ | refine zke ?_ | refine zkf ?_ | (refine RKg.split (fun h => ?_) (fun h => ?_) <;> (try rw [h]) <;> (replace h := zB h) <;> (try (exfalso; first | exact h | omega))) | refine zbt ?_ | apply V.regK | refine zva ?_ | refine zvb ?_ | refine zgc ?_ | refine zvd ?_ | refine zve ?_ | (refine zvf (fun h => ?_) (fun h => ?_) <;> (replace h := zB h) <;> (try (exfalso; first | exact h | omega))) | (refine zfc Tryz.results46 ?_; (try dsimp only)))
              rintro R7 H7 tr7 ⟨m7, e7, hS7, hF7, hO7⟩
              obtain ⟨hP7, hK7⟩ := hP6.scr hS7 hF7
              obtain ⟨hO7', hZ7, hK07⟩ := hK06.stp hK7 hO6 hZ6
              have hsl7 := hK7.slh hsl6 (fun k hk => (hZ6 k (.inr hk)).1)
              have ho3 := ev_out3 z.s e.kind e.r e.args
              obtain ⟨hgs7, hrw7, _, _⟩ := hgz.sg.ev e.kind e.r p3 (fun y hy => (p1 y hy).1)
              generalize hevq : z.s.ev e.kind e.r e.args = evq at *
              obtain ⟨s7, out⟩ := evq
              dsimp only at *
              cases out with
              | nil =>
                have lnO := fun G (hx : Ext H7 G) => len_rwX 0 hO7.sl G hx
                repeat' (first | refine zka ?_ | refine zkb ?_ | (apply RKp.op; ((try simp (disch := (first | exact zQ | fail)) only [lnO, go_sem]); exact zL); rfl) | refine zkc ?_ | refine zz ?_ | refine zkd ?_ | refine zke ?_ | refine zkf ?_ | (refine RKg.split (fun h => ?_) (fun h => ?_) <;> (try rw [h]) <;> (replace h := zB h) <;> (try (exfalso; first | exact h | omega))) | refine zbt ?_ | apply V.regK | refine zva ?_ | refine zvb ?_ | refine zgc ?_ | refine zvd ?_ | refine zve ?_ | (refine zvf (fun h => ?_) (fun h => ?_) <;> (replace h := zB h) <;> (try (exfalso; first | exact h | omega))) | (refine zfc Tryz.results46 ?_; (try dsimp only)))
                apply V.un
                repeat' (first | refine zka ?_ | refine zkb ?_ | (apply RKp.op; ((try simp (disch := (first | exact zQ | fail)) only [go_sem]); exact zL); rfl) | refine zkc ?_ | refine zz ?_ | refine zkd ?_ | refine zke ?_ | refine zkf ?_ | (refine RKg.split (fun h => ?_) (fun h => ?_) <;> (try rw [h]) <;> (replace h := zB h) <;> (try (exfalso; first | exact h | omega))) | refine zbt ?_ | apply V.regK | refine zva ?_ | refine zvb ?_ | refine zgc ?_ | refine zvd ?_ | refine zve ?_ | (refine zvf (fun h => ?_) (fun h => ?_) <;> (replace h := zB h) <;> (try (exfalso; first | exact h | omega))) | (refine zfc Tryz.results46 ?_; (try dsimp only)))
                apply V.un
                repeat' (first | refine zka ?_ | refine zkb ?_ | (apply RKp.op; ((try simp (disch := (first | exact zQ | fail)) only [go_sem]); exact zL); rfl) | refine zkc ?_ | refine zz ?_ | refine zkd ?_ | refine zke ?_ | refine zkf ?_ | (refine RKg.split (fun h => ?_) (fun h => ?_) <;> (try rw [h]) <;> (replace h := zB h) <;> (try (exfalso; first | exact h | omega))) | refine zbt ?_ | apply V.regK | refine zva ?_ | refine zvb ?_ | refine zgc ?_ | refine zvd ?_ | refine zve ?_ | (refine zvf (fun h => ?_) (fun h => ?_) <;> (replace h := zB h) <;> (try (exfalso; first | exact h | omega))) | (refine zfc Tryz.results46 ?_; (try dsimp only)))
                refine LoopS.again (rs.length - (j + 1)) (by rfl) (by omega) ⟨j + 1, _, _, rfl, rfl, by omega, ?_, hsl7, hRo6⟩
                rw [hrs]
                exact ⟨_, _, _, _, _, _, _, _, _, hP7, hK07, hO7', hZ7⟩
              | cons row rest =>
                obtain rfl : rest = [] := by simpa using ho3
                have lnO := fun G (hx : Ext H7 G) => len_rwX 0 hO7.sl G hx
                have ixO := fun G (hx : Ext H7 G) => ix_rwX 0 hO7.sl G hx .i64 0 (by omega) (by simp)
                have ldO : ∀ G, Ext H7 G → primL 0 G (loadA (ELo oc) 48 (ixA R7 (rowsA [row]) 0)) = some (.agg [.sl 3 (cesA row.1), .v (.bool row.2)], G, rdTr R7) := fun G hx => ld_rwX 0 hO7.sl G hx 0 (by simp)
                have hrk := rwOk_of (hrw7 row (by simp)) hgz.sg.w2
                have hPb := hP7.push ⟨48, 2, 0, [[.sl 3 (cesA row.1), .v (.bool row.2)]], none⟩
                have hbb := hPb.p.blk
                unfold pBlkE at hbb
                have hol := hgz.ol
                have hl1 := hgz.l1
                have hA := fun ys => Add_run (ys := ys) (lo := 0) hPb.h (fun _ _ => Nat.zero_le _) (by show z.old.length < 2 ^ 39; omega) row hrk
                unfold rowA at hA
                dsimp only [Int.toNat_zero, List.length_cons, List.length_nil] at ixO lnO
                repeat' (first | refine zka ?_ | refine zkb ?_ | (apply RKp.op; ((try simp (disch := (first | exact zQ | fail)) only [lnO, go_sem]); exact zL); rfl) | refine zkc ?_ | refine zz ?_ | refine zkd ?_ | refine zke ?_ | refine zkf ?_ | (refine RKg.split (fun h => ?_) (fun h => ?_) <;> (try rw [h]) <;> (replace h := zB h) <;> (try (exfalso; first | exact h | omega))) | refine zbt ?_ | apply V.regK | refine zva ?_ | refine zvb ?_ | refine zgc ?_ | refine zvd ?_ | refine zve ?_ | (refine zvf (fun h => ?_) (fun h => ?_) <;> (replace h := zB h) <;> (try (exfalso; first | exact h | omega))) | (refine zfc Tryz.results46 ?_; (try dsimp only)))
                apply V.un
                repeat' (first | refine zka ?_ | refine zkb ?_ | (apply RKp.op; ((try simp (disch := (first | exact zQ | fail)) only [hbb, lnO, ixO, ldO, go_sem]); exact zL); rfl) | (apply RKp.callE; (apply hA <;> (exact zD)); (intro x; rfl)) | refine zkc ?_ | refine zz ?_ | refine zkd ?_ | refine zke ?_ | refine zkf ?_ | (refine RKg.split (fun h => ?_) (fun h => ?_) <;> (try rw [h]) <;> (replace h := zB h) <;> (try (exfalso; first | exact h | omega))) | refine zbt ?_ | apply V.regK | refine zva ?_ | refine zvb ?_ | refine zgc ?_ | refine zvd ?_ | refine zve ?_ | (refine zvf (fun h => ?_) (fun h => ?_) <;> (replace h := zB h) <;> (try (exfalso; first | exact h | omega))) | (refine zfc Tryz.results46 ?_; (try dsimp only)))
                rintro R8 H8 tr8 ⟨hT8, ht8⟩
                obtain ⟨hP8, hK8⟩ := hPb.add hT8 ht8
                have hK7b : ∀ O, Kp H7 (H7.push ⟨48, 2, 0, [[.sl 3 (cesA row.1), .v (.bool row.2)]], none⟩) O O := fun O => (Kp.refl H7 O).push _
                obtain ⟨hO8, hZ8, hK08⟩ := hK07.stp ((hK7b _).trans hK8) hO7' hZ7
                have hsl8 := ((hK7b _).trans hK8).slh hsl7 (fun k hk => (hZ7 k (.inr hk)).1)
                repeat' (first | refine zka ?_ | refine zkb ?_ | (apply RKp.op; ((try simp (disch := (first | exact zQ | fail)) only [go_sem]); exact zL); rfl) | refine zkc ?_ | refine zz ?_ | refine zkd ?_ | refine zke ?_ | refine zkf ?_ | (refine RKg.split (fun h => ?_) (fun h => ?_) <;> (try rw [h]) <;> (replace h := zB h) <;> (try (exfalso; first | exact h | omega))) | refine zbt ?_ | apply V.regK | refine zva ?_ | refine zvb ?_ | refine zgc ?_ | refine zvd ?_ | refine zve ?_ | (refine zvf (fun h => ?_) (fun h => ?_) <;> (replace h := zB h) <;> (try (exfalso; first | exact h | omega))) | (refine zfc Tryz.results46 ?_; (try dsimp only)))
                apply V.un
                repeat' (first | refine zka ?_ | refine zkb ?_ | (apply RKp.op; ((try simp (disch := (first | exact zQ | fail)) only [go_sem]); exact zL); rfl) | refine zkc ?_ | refine zz ?_ | refine zkd ?_ | refine zke ?_ | refine zkf ?_ | (refine RKg.split (fun h => ?_) (fun h => ?_) <;> (try rw [h]) <;> (replace h := zB h) <;> (try (exfalso; first | exact h | omega))) | refine zbt ?_ | apply V.regK | refine zva ?_ | refine zvb ?_ | refine zgc ?_ | refine zvd ?_ | refine zve ?_ | (refine zvf (fun h => ?_) (fun h => ?_) <;> (replace h := zB h) <;> (try (exfalso; first | exact h | omega))) | (refine zfc Tryz.results46 ?_; (try dsimp only)))
                apply V.un
                repeat' (first | refine zka ?_ | refine zkb ?_ | (apply RKp.op; ((try simp (disch := (first | exact zQ | fail)) only [go_sem]); exact zL); rfl) | refine zkc ?_ | refine zz ?_ | refine zkd ?_ | refine zke ?_ | refine zkf ?_ | (refine RKg.split (fun h => ?_) (fun h => ?_) <;> (try rw [h]) <;> (replace h := zB h) <;> (try (exfalso; first | exact h | omega))) | refine zbt ?_ | apply V.regK | refine zva ?_ | refine zvb ?_ | refine zgc ?_ | refine zvd ?_ | refine zve ?_ | (refine zvf (fun h => ?_) (fun h => ?_) <;> (replace h := zB h) <;> (try (exfalso; first | exact h | omega))) | (refine zfc Tryz.results46 ?_; (try dsimp only)))
                refine LoopS.again (rs.length - (j + 1)) (by rfl) (by omega) ⟨j + 1, _, _, rfl, rfl, by omega, ?_, hsl8, hRo6⟩
                rw [hrs]
                exact ⟨_, _, _, _, _, _, _, _, _, hP8, hK08, hO8, hZ8⟩
            · rw [if_neg hk4] at hrs
              have hv6 : (H5.push (evk e.kind e.r Ae e.text)).get H5.next = some (evk e.kind e.r Ae e.text) := by rw [get_push, if_pos rfl]
              unfold evk at hv6
              have hsl6 := hsl5.push (evk e.kind e.r Ae e.text)
              have hP6 := hP5b
              have hK06 := hK05.push (evk e.kind e.r Ae e.text)
              have hZ6 : ∀ k, nmO o2 k ∨ nmO R k → ¬ ownP (grow F4 H4 H5) G4 C4.sn sm4 k ∧ k < (H5.push (evk e.kind e.r Ae e.text)).next := fun k hk => ⟨(hZ5 k hk).1, by have := (hZ5 k hk).2; (first | omega | (simp only [next_push, next_set, next_empty]; done) | (simp only [next_push, next_set, next_empty]; omega))⟩
              have hA6 := hAe.push (evk e.kind e.r Ae e.text)
              have hRo6 := hRo4
              have hO6 : OwS (H5.push (evk e.kind e.r Ae e.text)) H.next 9 1 o2 (strsE (os ++ (o4 ++ []))) := by rw [List.append_nil]; exact hO5.push _
              repeat' (first | refine zka ?_ | refine zkb ?_ | (apply RKp.op; ((try simp (disch := (first | exact zQ | fail)) only [ixE, ldE, go_sem]); exact zL); rfl) | refine zkc ?_ | refine zz ?_ | refine zkd ?_ | refine zke ?_ | refine zkf ?_ | (refine RKg.split (fun h => ?_) (fun h => ?_) <;> (try rw [h]) <;> (replace h := zB h) <;> (try (exfalso; first | exact h | omega))) | refine zbt ?_ | apply V.regK | refine zva ?_ | refine zvb ?_ | refine zgc ?_ | refine zvd ?_ | refine zve ?_ | (refine zvf (fun h => ?_) (fun h => ?_) <;> (replace h := zB h) <;> (try (exfalso; first | exact h | omega))) | (refine zfc Tryz.results46 ?_; (try dsimp only)))
              have hb6 := hP6.p.blk
              unfold pBlkE at hb6
              have hD := fun ys => Do_run (ys := ys) hP6.s hgz.sg e.kind e.r p3 e.text hA6 hAn6 p2 p1
              repeat' (first | refine zka ?_ | refine zkb ?_ | (apply RKp.op; ((try simp (disch := (first | exact zQ | fail)) only [hb6, hv6, go_sem]); exact zL); rfl) | (apply RKp.callE; (apply hD <;> (exact zD)); (intro x; rfl)) | refine zkc ?_ | refine zz ?_ | refine zkd ?_ | refine zke ?_ | refine zkf ?_ | (refine RKg.split (fun h => ?_) (fun h => ?_) <;> (try rw [h]) <;> (replace h := zB h) <;> (try (exfalso; first | exact h | omega))) | refine zbt ?_ | apply V.regK | refine zva ?_ | refine zvb ?_ | refine zgc ?_ | refine zvd ?_ | refine zve ?_ | (refine zvf (fun h => ?_) (fun h => ?_) <;> (replace h := zB h) <;> (try (exfalso; first | exact h | omega))) | (refine zfc Tryz.results46 ?_; (try dsimp only)))
              rintro R7 H7 tr7 ⟨m7, e7, hS7, hF7, hO7⟩
              obtain ⟨hP7, hK7⟩ := hP6.scr hS7 hF7
              obtain ⟨hO7', hZ7, hK07⟩ := hK06.stp hK7 hO6 hZ6
              have hsl7 := hK7.slh hsl6 (fun k hk => (hZ6 k (.inr hk)).1)
              have ho3 := ev_out3 z.s e.kind e.r e.args
              obtain ⟨hgs7, hrw7, _, _⟩ := hgz.sg.ev e.kind e.r p3 (fun y hy => (p1 y hy).1)
              generalize hevq : z.s.ev e.kind e.r e.args = evq at *
              obtain ⟨s7, out⟩ := evq
              dsimp only at *
              cases out with
              | nil =>
                have lnO := fun G (hx : Ext H7 G) => len_rwX 0 hO7.sl G hx
                repeat' (first | refine zka ?_ | refine zkb ?_ | (apply RKp.op; ((try simp (disch := (first | exact zQ | fail)) only [lnO, go_sem]); exact zL); rfl) | refine zkc ?_ | refine zz ?_ | refine zkd ?_ | refine zke ?_ | refine zkf ?_ | (refine RKg.split (fun h => ?_) (fun h => ?_) <;> (try rw [h]) <;> (replace h := zB h) <;> (try (exfalso; first | exact h | omega))) | refine zbt ?_ | apply V.regK | refine zva ?_ | refine zvb ?_ | refine zgc ?_ | refine zvd ?_ | refine zve ?_ | (refine zvf (fun h => ?_) (fun h => ?_) <;> (replace h := zB h) <;> (try (exfalso; first | exact h | omega))) | (refine zfc Tryz.results46 ?_; (try dsimp only)))
                apply V.un
                repeat' (first | refine zka ?_ | refine zkb ?_ | (apply RKp.op; ((try simp (disch := (first | exact zQ | fail)) only [go_sem]); exact zL); rfl) | refine zkc ?_ | refine zz ?_ | refine zkd ?_ | refine zke ?_ | refine zkf ?_ | (refine RKg.split (fun h => ?_) (fun h => ?_) <;> (try rw [h]) <;> (replace h := zB h) <;> (try (exfalso; first | exact h | omega))) | refine zbt ?_ | apply V.regK | refine zva ?_ | refine zvb ?_ | refine zgc ?_ | refine zvd ?_ | refine zve ?_ | (refine zvf (fun h => ?_) (fun h => ?_) <;> (replace h := zB h) <;> (try (exfalso; first | exact h | omega))) | (refine zfc Tryz.results46 ?_; (try dsimp only)))
                apply V.un
                repeat' (first | refine zka ?_ | refine zkb ?_ | (apply RKp.op; ((try simp (disch := (first | exact zQ | fail)) only [go_sem]); exact zL); rfl) | refine zkc ?_ | refine zz ?_ | refine zkd ?_ | refine zke ?_ | refine zkf ?_ | (refine RKg.split (fun h => ?_) (fun h => ?_) <;> (try rw [h]) <;> (replace h := zB h) <;> (try (exfalso; first | exact h | omega))) | refine zbt ?_ | apply V.regK | refine zva ?_ | refine zvb ?_ | refine zgc ?_ | refine zvd ?_ | refine zve ?_ | (refine zvf (fun h => ?_) (fun h => ?_) <;> (replace h := zB h) <;> (try (exfalso; first | exact h | omega))) | (refine zfc Tryz.results46 ?_; (try dsimp only)))
                refine LoopS.again (rs.length - (j + 1)) (by rfl) (by omega) ⟨j + 1, _, _, rfl, rfl, by omega, ?_, hsl7, hRo6⟩
                rw [hrs]
                exact ⟨_, _, _, _, _, _, _, _, _, hP7, hK07, hO7', hZ7⟩
              | cons row rest =>
                obtain rfl : rest = [] := by simpa using ho3
                have lnO := fun G (hx : Ext H7 G) => len_rwX 0 hO7.sl G hx
                have ixO := fun G (hx : Ext H7 G) => ix_rwX 0 hO7.sl G hx .i64 0 (by omega) (by simp)
                have ldO : ∀ G, Ext H7 G → primL 0 G (loadA (ELo oc) 48 (ixA R7 (rowsA [row]) 0)) = some (.agg [.sl 3 (cesA row.1), .v (.bool row.2)], G, rdTr R7) := fun G hx => ld_rwX 0 hO7.sl G hx 0 (by simp)
                have hrk := rwOk_of (hrw7 row (by simp)) hgz.sg.w2
                have hPb := hP7.push ⟨48, 2, 0, [[.sl 3 (cesA row.1), .v (.bool row.2)]], none⟩
                have hbb := hPb.p.blk
                unfold pBlkE at hbb
                have hol := hgz.ol
                have hl1 := hgz.l1
                have hA := fun ys => Add_run (ys := ys) (lo := 0) hPb.h (fun _ _ => Nat.zero_le _) (by show z.old.length < 2 ^ 39; omega) row hrk
                unfold rowA at hA
                dsimp only [Int.toNat_zero, List.length_cons, List.length_nil] at ixO lnO
                repeat' (first | refine zka ?_ | refine zkb ?_ | (apply RKp.op; ((try simp (disch := (first | exact zQ | fail)) only [lnO, go_sem]); exact zL); rfl) | refine zkc ?_ | refine zz ?_ | refine zkd ?_ | refine zke ?_ | refine zkf ?_ | (refine RKg.split (fun h => ?_) (fun h => ?_) <;> (try rw [h]) <;> (replace h := zB h) <;> (try (exfalso; first | exact h | omega))) | refine zbt ?_ | apply V.regK | refine zva ?_ | refine zvb ?_ | refine zgc ?_ | refine zvd ?_ | refine zve ?_ | (refine zvf (fun h => ?_) (fun h => ?_) <;> (replace h := zB h) <;> (try (exfalso; first | exact h | omega))) | (refine zfc Tryz.results46 ?_; (try dsimp only)))
                apply V.un
                repeat' (first | refine zka ?_ | refine zkb ?_ | (apply RKp.op; ((try simp (disch := (first | exact zQ | fail)) only [hbb, lnO, ixO, ldO, go_sem]); exact zL); rfl) | (apply RKp.callE; (apply hA <;> (exact zD)); (intro x; rfl)) | refine zkc ?_ | refine zz ?_ | refine zkd ?_ | refine zke ?_ | refine zkf ?_ | (refine RKg.split (fun h => ?_) (fun h => ?_) <;> (try rw [h]) <;> (replace h := zB h) <;> (try (exfalso; first | exact h | omega))) | refine zbt ?_ | apply V.regK | refine zva ?_ | refine zvb ?_ | refine zgc ?_ | refine zvd ?_ | refine zve ?_ | (refine zvf (fun h => ?_) (fun h => ?_) <;> (replace h := zB h) <;> (try (exfalso; first | exact h | omega))) | (refine zfc Tryz.results46 ?_; (try dsimp only)))
                rintro R8 H8 tr8 ⟨hT8, ht8⟩
                obtain ⟨hP8, hK8⟩ := hPb.add hT8 ht8
                have hK7b : ∀ O, Kp H7 (H7.push ⟨48, 2, 0, [[.sl 3 (cesA row.1), .v (.bool row.2)]], none⟩) O O := fun O => (Kp.refl H7 O).push _
                obtain ⟨hO8, hZ8, hK08⟩ := hK07.stp ((hK7b _).trans hK8) hO7' hZ7
                have hsl8 := ((hK7b _).trans hK8).slh hsl7 (fun k hk => (hZ7 k (.inr hk)).1)
                repeat' (first | refine zka ?_ | refine zkb ?_ | (apply RKp.op; ((try simp (disch := (first | exact zQ | fail)) only [go_sem]); exact zL); rfl) | refine zkc ?_ | refine zz ?_ | refine zkd ?_ | refine zke ?_ | refine zkf ?_ | (refine RKg.split (fun h => ?_) (fun h => ?_) <;> (try rw [h]) <;> (replace h := zB h) <;> (try (exfalso; first | exact h | omega))) | refine zbt ?_ | apply V.regK | refine zva ?_ | refine zvb ?_ | refine zgc ?_ | refine zvd ?_ | refine zve ?_ | (refine zvf (fun h => ?_) (fun h => ?_) <;> (replace h := zB h) <;> (try (exfalso; first | exact h | omega))) | (refine zfc Tryz.results46 ?_; (try dsimp only)))
                apply V.un
                repeat' (first | refine zka ?_ | refine zkb ?_ | (apply RKp.op; ((try simp (disch := (first | exact zQ | fail)) only [go_sem]); exact zL); rfl) | refine zkc ?_ | refine zz ?_ | refine zkd ?_ | refine zke ?_ | refine zkf ?_ | (refine RKg.split (fun h => ?_) (fun h => ?_) <;> (try rw [h]) <;> (replace h := zB h) <;> (try (exfalso; first | exact h | omega))) | refine zbt ?_ | apply V.regK | refine zva ?_ | refine zvb ?_ | refine zgc ?_ | refine zvd ?_ | refine zve ?_ | (refine zvf (fun h => ?_) (fun h => ?_) <;> (replace h := zB h) <;> (try (exfalso; first | exact h | omega))) | (refine zfc Tryz.results46 ?_; (try dsimp only)))
                apply V.un
                repeat' (first | refine zka ?_ | refine zkb ?_ | (apply RKp.op; ((try simp (disch := (first | exact zQ | fail)) only [go_sem]); exact zL); rfl) | refine zkc ?_ | refine zz ?_ | refine zkd ?_ | refine zke ?_ | refine zkf ?_ | (refine RKg.split (fun h => ?_) (fun h => ?_) <;> (try rw [h]) <;> (replace h := zB h) <;> (try (exfalso; first | exact h | omega))) | refine zbt ?_ | apply V.regK | refine zva ?_ | refine zvb ?_ | refine zgc ?_ | refine zvd ?_ | refine zve ?_ | (refine zvf (fun h => ?_) (fun h => ?_) <;> (replace h := zB h) <;> (try (exfalso; first | exact h | omega))) | (refine zfc Tryz.results46 ?_; (try dsimp only)))
                refine LoopS.again (rs.length - (j + 1)) (by rfl) (by omega) ⟨j + 1, _, _, rfl, rfl, by omega, ?_, hsl8, hRo6⟩
                rw [hrs]
                exact ⟨_, _, _, _, _, _, _, _, _, hP8, hK08, hO8, hZ8⟩
        · obtain rfl : j = rs.length := by omega
          rw [List.take_of_length_le (Nat.le_refl _)] at hPW4
          repeat' (first | refine zka ?_ | refine zkb ?_ | (apply RKp.op; ((try simp (disch := (first | exact zQ | fail)) only [go_sem]); exact zL); rfl) | refine zkc ?_ | refine zz ?_ | refine zkd ?_ | refine zke ?_ | refine zkf ?_ | (refine RKg.split (fun h => ?_) (fun h => ?_) <;> (try rw [h]) <;> (replace h := zB h) <;> (try (exfalso; first | exact h | omega))) | refine zbt ?_ | apply V.regK | refine zva ?_ | refine zvb ?_ | refine zgc ?_ | refine zvd ?_ | refine zve ?_ | (refine zvf (fun h => ?_) (fun h => ?_) <;> (replace h := zB h) <;> (try (exfalso; first | exact h | omega))) | (refine zfc Tryz.results46 ?_; (try dsimp only)))
          refine LoopS.again (s.size - (i + 1)) (by rfl) (by omega) ⟨i + 1, _, _, rfl, rfl, by omega, ?_⟩
          rw [hws]
          obtain ⟨F4, G4, C4, A4, X4, any4, sp4, sm4, se4, hP4, hK4, hO4, hZ4⟩ := hPW4
          exact ⟨_, _, _, _, _, _, _, _, _, hP4, hK4, hO4, fun k hk => hZ4 k (hk.elim .inl False.elim)⟩
    · obtain rfl : i = s.size := by omega
      rw [List.take_of_length_le (by omega)] at hPW
      obtain ⟨F, G, C, A, X, any, sp, sm, se, hP, hK, hO, hZ⟩ := hPW
      repeat' (first | refine zka ?_ | refine zkb ?_ | (apply RKp.op; ((try simp (disch := (first | exact zQ | fail)) only [go_sem]); exact zL); rfl) | refine zkc ?_ | refine zz ?_ | refine zkd ?_ | refine zke ?_ | refine zkf ?_ | (refine RKg.split (fun h => ?_) (fun h => ?_) <;> (try rw [h]) <;> (replace h := zB h) <;> (try (exfalso; first | exact h | omega))) | refine zbt ?_ | apply V.regK | refine zva ?_ | refine zvb ?_ | refine zgc ?_ | refine zvd ?_ | refine zve ?_ | (refine zvf (fun h => ?_) (fun h => ?_) <;> (replace h := zB h) <;> (try (exfalso; first | exact h | omega))) | (refine zfc Tryz.results46 ?_; (try dsimp only)))
      obtain ⟨h1, h2⟩ := PV.kp hP hK hVl
      refine ⟨hO.slh, fun k hk => hO.nm hk, ⟨⟨F, G, C, A, X, any, sp, sm, se, hP, fun k hk => ⟨?_, fun z => (hZ k (.inl z)).1 hk⟩⟩, fun k hk => h1.lt k hk.1⟩, h2⟩
      rcases hK.gr k hk with z | z
      · exact .inl z
      · exact .inr ⟨z, hP.lt k hk⟩
end
end Go.Am
