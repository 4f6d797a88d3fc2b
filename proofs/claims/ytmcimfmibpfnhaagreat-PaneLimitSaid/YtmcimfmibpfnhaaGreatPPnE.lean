/- Parts of the proof: PPnC PPnD PPnE. -/
import Derived.Test.YtmcimfmibpfnhaaGreatPPnW
import Derived.Test.YtmcimfmibpfnhaaGreatPScr10
import Derived.Test.YtmcimfmibpfnhaaGreatPLinF
import Derived.Test.YtmcimfmibpfnhaaGreatPUtf1
set_option linter.all false
set_option linter.deprecated false

namespace Go.Am
variable {oc : Orc} [OrcI oc] [OrcF oc]
open Go.Proofs
set_option maxRecDepth 8000
set_option maxHeartbeats 8000000
abbrev boxBlk (h : Nat) : Blk := ⟨109, 1, 0, [[.op h 0 0 0]], none⟩
section
variable {ys : List (Nat × LRec)} {lo : Nat} {H : AHeap} {h n : Nat} {lim : Int} {rows : List Rw} {G : Nat → Prop} {x : Pn} {U : Nat → Prop}
theorem stAll_run : CallE (ELo oc) ys lo 87 [.op h 0 0 0] H fun x H' => x = .fn 128 [.op H.next 0 0 0] ∧ H' = H.push (boxBlk h) := by
  refine WC.effE rfl ?_
  refine zvin Tryz.func87 Tryz.ntmps87 ?_
  repeat' (first | refine zka ?_ | refine zkb ?_ | (apply RKp.op; ((try simp (disch := (first | exact zQ | fail)) only [go_sem]); exact zL); rfl) | refine zkc ?_ | refine zz ?_ | refine zkd ?_ | refine zke ?_ | refine zkf ?_ | (refine RKg.split (fun h => ?_) (fun h => ?_) <;> (try rw [h]) <;> (replace h := zB h) <;> (try (exfalso; first | exact h | omega))) | refine zbt ?_ | apply V.regK | refine zvd ?_ | refine zve ?_ | (refine zvf (fun h => ?_) (fun h => ?_) <;> (replace h := zB h) <;> (try (exfalso; first | exact h | omega))) | (refine zfc Tryz.results87 ?_; (try dsimp only)))
  exact ⟨rfl, rfl⟩
theorem stAll1_wc {k b : Nat} (I : Nat → AHeap → Prop) (hrl : rows.length < 2 ^ 39)
    (hI : ∀ i H2, I i H2 → H2.get b = some (boxBlk h) ∧ b < H2.next ∧ ST H2 G h lim rows ∧ lo ≤ H2.next)
    (hst : ∀ i H2 H3, I i H2 → ExJ H2 H3 → I i H3)
    (yy : ∀ (i : Nat) H2, i < rows.length → I i H2 → YR (ELo oc) ys lo k [.v (.int .i64 (i : Int)), rowA (.sl 3 (cesA (rows.getD i noRw).1)) (rows.getD i noRw).2] H2 fun r H3 => r = .v (.bool true) ∧ I (i + 1) H3)
    (h0 : I 0 H) : WC (ELo oc) ys lo 128 [.yl k, .op b 0 0 0] H fun _ H2 => I rows.length H2 := by
  obtain ⟨a1, a2, a3, a4⟩ := hI 0 H h0
  obtain ⟨s, nn, hS, hg, hr, hk⟩ := a3.ex
  have hn := hg.n
  rw [hr] at hn
  have hLen := fun ys => storeLen_run (ys := ys) (lo := lo) hS
  rw [hn] at hLen
  refine zvin Tryz.func128 Tryz.ntmps128 ?_
  repeat' (first | refine zka ?_ | refine zkb ?_ | (apply RKp.op; ((try simp (disch := (first | exact zQ | fail)) only [a1, go_sem]); exact zL); rfl) | (apply RKp.callR; (apply hLen <;> (exact zD)); rfl; intro tr htr) | refine zkc ?_ | refine zz ?_ | refine zkd ?_ | refine zke ?_ | refine zkf ?_ | (refine RKg.split (fun h => ?_) (fun h => ?_) <;> (try rw [h]) <;> (replace h := zB h) <;> (try (exfalso; first | exact h | omega))) | refine zbt ?_ | apply V.regK | refine zvd ?_ | refine zve ?_ | (refine zvf (fun h => ?_) (fun h => ?_) <;> (replace h := zB h) <;> (try (exfalso; first | exact h | omega))) | (refine zfa Tryz.results128 ?_; (try dsimp only)) | (refine zfb Tryz.results128 ?_; (try dsimp only)))
  apply V.lpS [8, 3, 4, 5, 9, 10, 11, 12, 13, 14, 15, 16, 17, 18, 19, 20, 21, 22] (fun m xs H2 => ∃ (i : Nat) (g : _), xs = .v (.int .i64 i) :: g ∧ m = rows.length - i ∧ i ≤ rows.length ∧ I i H2) rows.length
  focus (intro xs; simp only [putMany, set2, Nat.reduceAdd, Nat.reduceDiv, Nat.reduceMod, nth_zero, nth_succ, List.set_cons_zero, List.set_cons_succ]; rfl)
  focus (first | rfl | simp only [readMany, nth_zero, nth_succ, Nat.reduceDiv, Nat.reduceMod])
  · exact ⟨0, _, rfl, rfl, Nat.zero_le _, h0⟩
  · rintro m xs H2 ⟨i, g, rfl, rfl, hi, hIi⟩
    obtain ⟨b1, b2, b3, b4⟩ := hI i H2 hIi
    by_cases hlt : i < rows.length
    · obtain ⟨s2, n2, hS2, hg2, hr2, hk2⟩ := b3.ex
      have hAt := fun ys => storeAt_run (ys := ys) (lo := lo) hS2 hg2 i (by rw [hr2]; exact hlt) (by rw [hr2]; omega)
      rw [hr2] at hAt
      have hy := yy i _ hlt (hst i H2 _ hIi ((ExJ.refl H2).push ⟨48, 2, 0, [[.sl 3 (cesA (rows.getD i noRw).1), .v (.bool (rows.getD i noRw).2)]], none⟩))
      unfold rowA at hy
      repeat' (first | refine zka ?_ | refine zkb ?_ | (apply RKp.op; ((try simp (disch := (first | exact zQ | fail)) only [b1, go_sem]); exact zL); rfl) | (apply RKp.callR; (apply hAt <;> (exact zD)); rfl; intro tr htr) | (apply RKp.yield; (apply hy <;> (exact zD)); (intro x; rfl)) | refine zkc ?_ | refine zz ?_ | refine zkd ?_ | refine zke ?_ | refine zkf ?_ | (refine RKg.split (fun h => ?_) (fun h => ?_) <;> (try rw [h]) <;> (replace h := zB h) <;> (try (exfalso; first | exact h | omega))) | refine zbt ?_ | apply V.regK | refine zvd ?_ | refine zve ?_ | (refine zvf (fun h => ?_) (fun h => ?_) <;> (replace h := zB h) <;> (try (exfalso; first | exact h | omega))) | (refine zfa Tryz.results128 ?_; (try dsimp only)) | (refine zfb Tryz.results128 ?_; (try dsimp only)))
      rintro x5 H5 ⟨rfl, hI5⟩
      repeat' (first | refine zka ?_ | refine zkb ?_ | (apply RKp.op; ((try simp (disch := (first | exact zQ | fail)) only [go_sem]); exact zL); rfl) | refine zkc ?_ | refine zz ?_ | refine zkd ?_ | refine zke ?_ | refine zkf ?_ | (refine RKg.split (fun h => ?_) (fun h => ?_) <;> (try rw [h]) <;> (replace h := zB h) <;> (try (exfalso; first | exact h | omega))) | refine zbt ?_ | apply V.regK | refine zvd ?_ | refine zve ?_ | (refine zvf (fun h => ?_) (fun h => ?_) <;> (replace h := zB h) <;> (try (exfalso; first | exact h | omega))) | (refine zfa Tryz.results128 ?_; (try dsimp only)) | (refine zfb Tryz.results128 ?_; (try dsimp only)))
      exact LoopS.again (rows.length - (i + 1)) (by rfl) (by omega) ⟨i + 1, _, rfl, rfl, by omega, hI5⟩
    · obtain rfl : i = rows.length := by omega
      repeat' (first | refine zka ?_ | refine zkb ?_ | (apply RKp.op; ((try simp (disch := (first | exact zQ | fail)) only [go_sem]); exact zL); rfl) | refine zkc ?_ | refine zz ?_ | refine zkd ?_ | refine zke ?_ | refine zkf ?_ | (refine RKg.split (fun h => ?_) (fun h => ?_) <;> (try rw [h]) <;> (replace h := zB h) <;> (try (exfalso; first | exact h | omega))) | refine zbt ?_ | apply V.regK | refine zvd ?_ | refine zve ?_ | (refine zvf (fun h => ?_) (fun h => ?_) <;> (replace h := zB h) <;> (try (exfalso; first | exact h | omega))) | (refine zfa Tryz.results128 ?_; (try dsimp only)) | (refine zfb Tryz.results128 ?_; (try dsimp only)))
      exact hIi

/-- Rows under way, in a variable's block n. -/
structure RowsI (Hs : AHeap) (n : Nat) (rows : List Rw) (i : Nat) (G : AHeap) : Prop where
  nx : Hs.next ≤ G.next
  kp : ∀ k, k < Hs.next → k ≠ n → G.get k = Hs.get k
  js : G.js = Hs.js
  il : i ≤ rows.length
  st : ∃ x, G.get n = some (rwsBlk x) ∧ OwS G Hs.next 48 2 x (rowsA (rows.take i))
theorem RowsI.on {Hs G G' : AHeap} {n i : Nat} {ls : List Rw} (h : RowsI Hs n ls i G) (hn : n < Hs.next) (hx : ExJ G G') : RowsI Hs n ls i G' := by
  obtain ⟨h1, h2, h3, h4, x, h5, h6⟩ := h
  have := hx.x.next
  exact ⟨by omega, fun k hk hkn => by rw [hx.x.get k (by omega), h2 k hk hkn], hx.j.trans h3, h4, x, by rw [hx.x.get n (by omega)]; exact h5, h6.on hx.x.next fun k _ hk => hx.x.get k hk⟩
theorem paneRows_run (hV : PV H U n x) {b0 : Nat} (hg : PnG x b0) : CallRo (ELo oc) ys lo 47 [.op n 0 0 0] H (.sl 2 (rowsA (x.old ++ x.s.rows))) := by
  refine WC.pureR rfl fun lo' H' hh => ?_
  obtain ⟨rfl, rfl⟩ := two_op hh List.mem_cons_self
  obtain ⟨F, G, C, A, X, any, sp, sm, se, hP, hU⟩ := hV.ex
  have hb := hP.p.blk
  have hnl := hP.p.lt
  unfold pBlkE at hb
  have hol := hg.ol
  have hl1 := hg.l1
  refine zvin Tryz.func47 Tryz.ntmps47 ?_
  repeat' (first | refine zka ?_ | refine zkb ?_ | (apply RKp.op; ((try simp (disch := (first | exact zQ | fail)) only [hb, go_sem]); exact zL); rfl) | (apply RKp.callE; (apply stAll_run <;> (exact zD)); (intro x; rfl)) | refine zkc ?_ | refine zz ?_ | refine zkd ?_ | refine zke ?_ | refine zkf ?_ | (refine RKg.split (fun h => ?_) (fun h => ?_) <;> (try rw [h]) <;> (replace h := zB h) <;> (try (exfalso; first | exact h | omega))) | refine zbt ?_ | apply V.regK | refine zva ?_ | refine zvb ?_ | refine zgc ?_ | refine zvd ?_ | refine zve ?_ | (refine zvf (fun h => ?_) (fun h => ?_) <;> (replace h := zB h) <;> (try (exfalso; first | exact h | omega))) | (refine zfc Tryz.results47 ?_; (try dsimp only)))
  rintro fx Hx trx ⟨rfl, rfl⟩
  rw [next_push]
  repeat' (first | refine zka ?_ | refine zkb ?_ | (apply RKp.op; ((try simp (disch := (first | exact zQ | fail)) only [go_sem]); exact zL); rfl) | refine zkc ?_ | refine zz ?_ | refine zkd ?_ | refine zke ?_ | refine zkf ?_ | (refine RKg.split (fun h => ?_) (fun h => ?_) <;> (try rw [h]) <;> (replace h := zB h) <;> (try (exfalso; first | exact h | omega))) | refine zbt ?_ | apply V.regK | refine zva ?_ | refine zvb ?_ | refine zgc ?_ | refine zvd ?_ | refine zve ?_ | (refine zvf (fun h => ?_) (fun h => ?_) <;> (replace h := zB h) <;> (try (exfalso; first | exact h | omega))) | (refine zfc Tryz.results47 ?_; (try dsimp only)))
  generalize hHs : (H'.push (rwsBlk (.v (.slice none 0 0)))).push (boxBlk C.hn) = Hs
  have s1 : Hs.next = H'.next + 2 := by rw [← hHs]; rfl
  have s2 : Hs.js = H'.js := by rw [← hHs]; rfl
  have s3 : Hs.get H'.next = some (rwsBlk nilA) := by rw [← hHs]; simp (disch := (first | omega | exact zX | fail)) only [get_set, get_push, next_push, next_set, if_pos', if_neg', if_true, if_false, reduceIte]; rfl
  have s4 : Hs.get (H'.next + 1) = some (boxBlk C.hn) := by rw [← hHs]; simp (disch := (first | omega | exact zX | fail)) only [get_set, get_push, next_push, next_set, if_pos', if_neg', if_true, if_false, reduceIte]
  have s5 : Ext H' Hs := by rw [← hHs]; exact ((Ext.refl _).push _).push _
  have kx : ∀ i G, RowsI (Hs.wj (Hs.js ++ [.on])) H'.next x.old i G → Ext H' G := fun i G hG => ⟨by have := hG.nx; rw [next_wj] at this; omega, fun k hk => by rw [hG.kp k (by rw [next_wj]; omega) (by omega), get_wj]; exact s5.get k hk⟩
  refine V.rf rfl rfl ((stAll1_wc (h := C.hn) (lim := x.lim) (rows := x.old) (G := G) (b := H'.next + 1) (RowsI (Hs.wj (Hs.js ++ [.on])) H'.next x.old) (by omega) ?_ ?_ ?_ ?_).mono ?_)
  · intro i G' hG
    have h1 := hG.nx
    rw [next_wj] at h1
    exact ⟨by rw [hG.kp _ (by rw [next_wj]; omega) (by omega)]; exact s4, by omega, hP.h.ext (kx i G' hG), by omega⟩
  · intro i G' G'' hG hx
    exact hG.on (by rw [next_wj]; omega) hx
  · intro i G' hi hG
    have hkx := kx i G' hG
    obtain ⟨h1, h2, h3, h4, x0, h5, h6⟩ := hG
    rw [next_wj] at h1 h6
    have hcx := h6.cells
    obtain ⟨x', G3, tr3, happ, ho', ht', -⟩ := push1j (ELo oc) H'.next (H := (G'.push ⟨48, 2, 0, [[.sl 3 (cesA (x.old.getD i noRw).1), .v (.bool (x.old.getD i noRw).2)]], none⟩).wj (G'.js.set Hs.js.length .busy)) ((h6.push _).on (Nat.le_refl _) fun k _ _ => rfl) app_row (by omega) (by rw [next_wj, next_push]; omega) (by rw [rowsA_len, List.length_take]; unfold roomMax; omega) [.sl 3 (cesA (x.old.getD i noRw).1), .v (.bool (x.old.getD i noRw).2)]
    have hj3 := ht'.js
    have n3 := ht'.next
    rw [next_wj, next_push] at happ n3
    rw [js_wj, h3, js_wj, js_off] at hj3
    have hcx' := ho'.cells
    have k3 : G3.get H'.next = some (rwsBlk x0) := by
      rw [ht'.keep _ (by rw [next_wj, next_push]; omega) (fun z => by have := h6.nm z; omega), get_wj, get_push, if_neg (by omega)]; exact h5
    refine YR.intro (find_self _ _ _) (by rw [h3]; exact js_on _) rfl rfl ?_
    repeat' (first | refine zka ?_ | refine zkb ?_ | (apply RKp.op; ((try simp (disch := (first | exact zQ | fail)) only [go_sem]); exact zL); rfl) | refine zkc ?_ | refine zz ?_ | refine zkd ?_ | refine zke ?_ | refine zkf ?_ | (refine RKg.split (fun h => ?_) (fun h => ?_) <;> (try rw [h]) <;> (replace h := zB h) <;> (try (exfalso; first | exact h | omega))) | refine zbt ?_ | apply V.regK | refine zva ?_ | refine zvb ?_ | refine zgc ?_ | refine zvd ?_ | refine zve ?_ | (refine zvf (fun h => ?_) (fun h => ?_) <;> (replace h := zB h) <;> (try (exfalso; first | exact h | omega))) | (refine zfc Tryz.results47 ?_; (try dsimp only)))
    refine ⟨rfl, ?_⟩
    dsimp only
    rw [js_push]
    repeat' (first | refine zka ?_ | refine zkb ?_ | (apply RKp.op; ((try simp (disch := (first | exact zQ | fail)) only [h5, k3, happ, hcx, hcx', go_sem]); exact zL); rfl) | refine zkc ?_ | refine zz ?_ | refine zkd ?_ | refine zke ?_ | refine zkf ?_ | (refine RKg.split (fun h => ?_) (fun h => ?_) <;> (try rw [h]) <;> (replace h := zB h) <;> (try (exfalso; first | exact h | omega))) | refine zbt ?_ | apply V.regK | refine zva ?_ | refine zvb ?_ | refine zgc ?_ | refine zvd ?_ | refine zve ?_ | (refine zvf (fun h => ?_) (fun h => ?_) <;> (replace h := zB h) <;> (try (exfalso; first | exact h | omega))) | (refine zfc Tryz.results47 ?_; (try dsimp only)))
    dsimp only
    refine ⟨rfl, ⟨by rw [next_wj, next_wj, next_set]; omega, fun k hk hkn => ?_, ?_, by omega, x', ?_, ?_⟩⟩
    · rw [next_wj] at hk
      rw [get_wj, get_set, if_neg (Ne.symm hkn), ht'.keep k (by rw [next_wj, next_push]; omega) (fun z => by have := h6.nm z; omega), get_wj, get_push, if_neg (by omega), h2 k (by rw [next_wj]; omega) hkn]
    · rw [js_wj, js_set, hj3, js_off, js_wj]
    · rw [get_wj, get_set, if_pos rfl]
    · rw [take_snoc x.old noRw hi]
      have e : rowsA (x.old.take i ++ [x.old.getD i noRw]) = rowsA (x.old.take i) ++ [[.sl 3 (cesA (x.old.getD i noRw).1), .v (.bool (x.old.getD i noRw).2)]] := by simp [rowsA]
      rw [e]
      exact (ho'.set (m := H'.next) (by omega) _).on (Nat.le_refl _) fun k _ _ => rfl
  · exact ⟨Nat.le_refl _, fun k _ _ => rfl, rfl, Nat.zero_le _, nilA, by rw [get_wj]; exact s3, OwS.nil _ _ _ _⟩
  · intro r G' hG
    have hkx := kx _ G' hG
    obtain ⟨h1, h2, h3, h4, x0, h5, h6⟩ := hG
    have e : G'.js[Hs.js.length]? = some .on := by rw [h3]; exact js_on _
    rw [e]
    dsimp only
    have hbG := (hP.ext hkx).p.blk
    unfold pBlkE at hbG
    have hPw := hP.ext (hkx.wj (G'.js.set Hs.js.length .off))
    have hRo := fun ys => scrRows_run (ys := ys) (lo := H'.next) hPw.s hg.sg
    rw [next_wj] at h1 h6
    rw [List.take_length] at h6
    have h100 := hg.sg.h2
    have hlr := hg.sg.len
    obtain ⟨x', G3, tr3, happ, ho', hnx, hfr, hjs, -⟩ := ((h6.on (H' := G'.wj (G'.js.set Hs.js.length .off)) (Nat.le_refl _) fun k _ _ => rfl)).addN (ELo oc) H'.next app_row (y := .sl 2 (rowsA x.s.rows)) (.inl (.inl rfl)) (fun k _ hk => by obtain ⟨_, _, _, e⟩ := hk; cases e) (by omega) (by rw [next_wj]; omega) (by rw [rowsA_len, rowsA_len]; unfold roomMax; omega)
    repeat' (first | refine zka ?_ | refine zkb ?_ | (apply RKp.op; ((try simp (disch := (first | exact zQ | fail)) only [h5, hbG, happ, go_sem]); exact zL); rfl) | (apply RKp.callR; (apply hRo <;> (exact zD)); rfl; intro tr htr) | refine zkc ?_ | refine zz ?_ | refine zkd ?_ | refine zke ?_ | refine zkf ?_ | (refine RKg.split (fun h => ?_) (fun h => ?_) <;> (try rw [h]) <;> (replace h := zB h) <;> (try (exfalso; first | exact h | omega))) | refine zbt ?_ | apply V.regK | refine zva ?_ | refine zvb ?_ | refine zgc ?_ | refine zvd ?_ | refine zve ?_ | (refine zvf (fun h => ?_) (fun h => ?_) <;> (replace h := zB h) <;> (try (exfalso; first | exact h | omega))) | (refine zfc Tryz.results47 ?_; (try dsimp only)))
    rw [← rowsA_app] at ho'
    have hne : x.old ++ x.s.rows ≠ [] := fun z => by have := congrArg List.length z; rw [List.length_append, List.length_nil] at this; have := hg.sg.h1; omega
    rw [own_rwA ho' (fun z => absurd z hne) (by omega), rwA, if_neg hne]
theorem paneScreen_run {F G : Nat → Prop} {C : UC} {A X : AV} {any sp : Bool} {sm se : Nat} (hP : PC H F G C A X any sp sm se n x) : CallRo (ELo oc) ys lo 48 [.op n 0 0 0] H (.op C.sn 0 0 0) := by
  refine WC.pureR rfl fun lo' H' hh => ?_
  obtain ⟨rfl, rfl⟩ := two_op hh List.mem_cons_self
  have hb := hP.p.blk
  unfold pBlkE at hb
  refine zvin Tryz.func48 Tryz.ntmps48 ?_
  repeat' (first | refine zka ?_ | refine zkb ?_ | (apply RKp.op; ((try simp (disch := (first | exact zQ | fail)) only [hb, go_sem]); exact zL); rfl) | refine zkc ?_ | refine zz ?_ | refine zkd ?_ | refine zke ?_ | refine zkf ?_ | (refine RKg.split (fun h => ?_) (fun h => ?_) <;> (try rw [h]) <;> (replace h := zB h) <;> (try (exfalso; first | exact h | omega))) | refine zbt ?_ | apply V.regK | refine zvd ?_ | refine zve ?_ | (refine zvf (fun h => ?_) (fun h => ?_) <;> (replace h := zB h) <;> (try (exfalso; first | exact h | omega))) | (refine zfc Tryz.results48 ?_; (try dsimp only)))
  exact if_pos hP.s.nn
theorem paneHistory_run (hV : PV H U n x) : CallRo (ELo oc) ys lo 50 [.op n 0 0 0] H (.v (.int .i64 (x.old.length : Int))) := by
  refine WC.pureR rfl fun lo' H' hh => ?_
  obtain ⟨rfl, rfl⟩ := two_op hh List.mem_cons_self
  obtain ⟨F, G, C, A, X, any, sp, sm, se, hP, hU⟩ := hV.ex
  have hb := hP.p.blk
  unfold pBlkE at hb
  obtain ⟨s, m, hS, hg, hr, hk⟩ := hP.h.ex
  have hL := fun ys => storeLen_run (ys := ys) (lo := H'.next) hS
  have hn := hg.n
  rw [hr] at hn
  rw [hn] at hL
  refine zvin Tryz.func50 Tryz.ntmps50 ?_
  repeat' (first | refine zka ?_ | refine zkb ?_ | (apply RKp.op; ((try simp (disch := (first | exact zQ | fail)) only [hb, go_sem]); exact zL); rfl) | (apply RKp.callR; (apply hL <;> (exact zD)); rfl; intro tr htr) | refine zkc ?_ | refine zz ?_ | refine zkd ?_ | refine zke ?_ | refine zkf ?_ | (refine RKg.split (fun h => ?_) (fun h => ?_) <;> (try rw [h]) <;> (replace h := zB h) <;> (try (exfalso; first | exact h | omega))) | refine zbt ?_ | apply V.regK | refine zvd ?_ | refine zve ?_ | (refine zvf (fun h => ?_) (fun h => ?_) <;> (replace h := zB h) <;> (try (exfalso; first | exact h | omega))) | (refine zfc Tryz.results50 ?_; (try dsimp only)))
  rfl
end
end Go.Am

namespace Go.Am
variable {oc : Orc} [OrcI oc] [OrcF oc]
open Go.Proofs
set_option maxRecDepth 8000
set_option maxHeartbeats 8000000

/-- How a place is told. -/
theorem placeIn {c : Int} {L : Nat} (h0 : 0 < L) : ∃ k : Nat, (c.tmod L + L).tmod L = (k : Int) ∧ k < L ∧ -(L : Int) < c.tmod L ∧ c.tmod L < L := by
  have hL : (0 : Int) < L := by omega
  have f1 := Int.tmod_lt_of_pos c hL
  have f2 := Int.lt_tmod_of_pos c hL
  have f4 : 0 ≤ (c.tmod L + L).tmod L := Int.tmod_nonneg _ (by omega)
  have f5 := Int.tmod_lt_of_pos (c.tmod L + L) hL
  exact ⟨((c.tmod L + L).tmod L).toNat, by omega, by omega, by omega, by omega⟩
theorem byL_ext (s : ByteArray) (l r : Nat) : byL (s.extract l r) = ((byL s).take r).drop l := by
  have h : (s.extract l r).data.toList = (s.data.toList.take r).drop l := by
    rw [ByteArray.data_extract, Array.toList_extract, List.extract_eq_drop_take]
    rw [List.drop_take]
  unfold byL
  rw [h, List.map_drop, List.map_take]
theorem PV.ext {H H' : AHeap} {U : Nat → Prop} {n : Nat} {x : Pn} (h : PV H U n x) (hx : Ext H H') : PV H' U n x := by
  obtain ⟨F, G, C, A, X, any, sp, sm, se, h1, h2⟩ := h.ex
  exact ⟨⟨F, G, C, A, X, any, sp, sm, se, h1.ext hx, h2⟩, fun k hk => Nat.lt_of_lt_of_le (h.lt k hk) hx.next⟩
theorem nth_strsE (l : List ByteArray) (i : Nat) (h : i < l.length) : nth [] (strsE l) i = [.v (.string (l.getD i ⟨#[]⟩))] := nth_map _ l i ⟨#[]⟩ h
section
variable {ys : List (Nat × LRec)} {H : AHeap}

/-- The loop's state in PaneParts. -/
structure PPs (H : AHeap) (base ma : Nat) (W : Nat → Prop) (y : Pn) (os : List ByteArray) (o : AV) (Ua : Nat → Prop) : Prop where
  pv : PV H Ua ma y
  ow : OwS H base 9 1 o (strsE os)
  bn : base ≤ H.next
  d1 : ∀ k, Ua k → ¬ W k ∧ ¬ nmO o k
theorem PPs.step {H H1 : AHeap} {base ma : Nat} {W : Nat → Prop} {y : Pn} {os : List ByteArray} {o R : AV} {Ua : Nat → Prop} (h : PPs H base ma W y os o Ua) (hRn : ∀ k, nmO R k → H.next ≤ k ∧ k < H1.next) (ht : Turn Ua H H1) : OwS H1 base 9 1 o (strsE os) ∧ (∀ k, nmO o k → ¬ nmO R k) := by
  have := ht.next
  exact ⟨h.ow.onN ht.next fun k hk => ht.keep k (h.ow.nm hk).2 (fun z => (h.d1 k z).2 hk), fun k hk hk2 => by have := (h.ow.nm hk).2; have := (hRn k hk2).1; omega⟩
theorem PPs.step2 {H H1 H2 : AHeap} {base ma : Nat} {W : Nat → Prop} {y y' : Pn} {os new : List ByteArray} {o R o' : AV} {Ua : Nat → Prop} (h : PPs H base ma W y os o Ua) (hRn : ∀ k, nmO R k → H.next ≤ k ∧ k < H1.next) (hV : PV H1 (fun k => grow Ua H H1 k ∧ ¬ nmO R k) ma y') (ht : Turn Ua H H1) (hW : ∀ k, W k → k < base) (ho : OwS H2 base 9 1 o' (strsE os ++ strsE new)) (hn : H1.next ≤ H2.next) (hk : ∀ k, k < H1.next → ¬ nmO o k → H2.get k = H1.get k) (hj : H2.js = H1.js) (hnm : ∀ k, nmO o' k → nmO o k ∨ H1.next ≤ k) : PPs H2 base ma W y' (os ++ new) o' (fun k => grow Ua H H1 k ∧ ¬ nmO R k) := by
  have h1 := ht.next
  have h2 := h.bn
  have hd : ∀ k, grow Ua H H1 k → ¬ nmO o k := fun k z w => by
    rcases z with z | ⟨z, _⟩
    · exact (h.d1 k z).2 w
    · have := (h.ow.nm w).2; omega
  refine ⟨hV.off ⟨hn, hj, hk⟩ (fun k z => hd k z.1), by rw [strsE_app]; exact ho, by omega, fun k z => ⟨fun w => ?_, fun w => ?_⟩⟩
  · rcases z.1 with q | ⟨q, _⟩
    · exact (h.d1 k q).1 w
    · have := hW k w; omega
  · rcases hnm k w with q | q
    · exact hd k z.1 q
    · have := hV.lt k z; omega
theorem PaneParts_law (hbe : ∀ (ys : List (Nat × LRec)) (lo : Nat) (H : AHeap), CallR (ELo oc) ys lo 22 [] H (.v (.bool true)) H ⟨0, 0, 0⟩) (s : ByteArray) (A : AV) (cs : List Int) (hA : Sl 1 A (ints cs)) (hlen : cs.length < 2 ^ 63) : WC (ELo oc) [] 0 10 [.v (.string s), A] .empty fun x _ => x = .v (.bool true) := by
  have hsz : (s.extract 0 (min s.size 200)).size ≤ 200 := by rw [extract_size _ _ _ (Nat.zero_le _) (by omega)]; omega
  have hsh := fun ys G => Short_run (ys := ys) (lo := 0) (H := G) s 200
  generalize s.extract 0 (min s.size 200) = t at *
  refine zvin Tryz.func10 Tryz.ntmps10 ?_
  repeat' (first | refine zka ?_ | refine zkb ?_ | (apply RKp.op; ((try simp (disch := (first | exact zQ | fail)) only [go_sem]); exact zL); rfl) | (apply RKp.call; ((first | apply hbe | apply hsh) <;> (exact zD)); rfl) | (apply RKp.callR; (apply hbe <;> (exact zD)); rfl; intro tr htr) | (apply RKp.callO; (apply hbe <;> (exact zD)); rfl; intro tr) | (apply RKp.callRE; (apply hbe <;> (exact zD)); (intro x; rfl)) | (apply RKp.callE; ((first | apply hbe | apply paneNew_run) <;> (exact zD)); (intro x; rfl)) | refine zkc ?_ | refine zz ?_ | refine zkd ?_ | refine zke ?_ | refine zkf ?_ | (refine RKg.split (fun h => ?_) (fun h => ?_) <;> (try rw [h]) <;> (replace h := zB h) <;> (try (exfalso; first | exact h | omega))) | refine zbt ?_ | apply V.regK | refine zva ?_ | refine zvb ?_ | refine zgc ?_ | refine zvd ?_ | refine zve ?_ | (refine zvf (fun h => ?_) (fun h => ?_) <;> (replace h := zB h) <;> (try (exfalso; first | exact h | omega))) | (refine zfc Tryz.results10 ?_; (try dsimp only)))
  rintro _ H1 tr1 ⟨ma, rfl, hV1, hx1, hj1⟩
  repeat' (first | refine zka ?_ | refine zkb ?_ | (apply RKp.op; ((try simp (disch := (first | exact zQ | fail)) only [go_sem]); exact zL); rfl) | (apply RKp.callE; (apply paneNew_run <;> (exact zD)); (intro x; rfl)) | refine zkc ?_ | refine zz ?_ | refine zkd ?_ | refine zke ?_ | refine zkf ?_ | (refine RKg.split (fun h => ?_) (fun h => ?_) <;> (try rw [h]) <;> (replace h := zB h) <;> (try (exfalso; first | exact h | omega))) | refine zbt ?_ | apply V.regK | refine zva ?_ | refine zvb ?_ | refine zgc ?_ | refine zvd ?_ | refine zve ?_ | (refine zvf (fun h => ?_) (fun h => ?_) <;> (replace h := zB h) <;> (try (exfalso; first | exact h | omega))) | (refine zfc Tryz.results10 ?_; (try dsimp only)))
  rintro _ H2 tr2 ⟨mb, rfl, hV2, hx2, hj2⟩
  have hG0 : PnG (Pn.new 7 3 20) 0 := PnG.new 7 3 20
  generalize Pn.new 7 3 20 = x0 at *
  have n1 := hx1.next
  have n2 := hx2.next
  have hWb := fun ys => Write_run (ys := ys) hV2 hG0 t (by omega)
  repeat' (first | refine zka ?_ | refine zkb ?_ | (apply RKp.op; ((try simp (disch := (first | exact zQ | fail)) only [go_sem]); exact zL); rfl) | (apply RKp.callE; (apply hWb <;> (exact zD)); (intro x; rfl)) | refine zkc ?_ | refine zz ?_ | refine zkd ?_ | refine zke ?_ | refine zkf ?_ | (refine RKg.split (fun h => ?_) (fun h => ?_) <;> (try rw [h]) <;> (replace h := zB h) <;> (try (exfalso; first | exact h | omega))) | refine zbt ?_ | apply V.regK | refine zva ?_ | refine zvb ?_ | refine zgc ?_ | refine zvd ?_ | refine zve ?_ | (refine zvf (fun h => ?_) (fun h => ?_) <;> (replace h := zB h) <;> (try (exfalso; first | exact h | omega))) | (refine zfc Tryz.results10 ?_; (try dsimp only)))
  rintro Rb H3 tr3 ⟨hRb, hRbn, hVb, htb⟩
  have n3 := htb.next
  have hVa : PV H3 (fun k => AHeap.empty.next ≤ k ∧ k < H1.next) ma x0 := (hV1.ext hx2).off htb (fun k hk z => by have := hk.2; have := z.1; omega)
  have hgW : ∀ k, nmO Rb k → grow (fun k => H1.next ≤ k ∧ k < H2.next) H2 H3 k := fun k hk => .inr (hRbn k hk)
  have hW3 : ∀ k, grow (fun k => H1.next ≤ k ∧ k < H2.next) H2 H3 k → H1.next ≤ k ∧ k < H3.next := by
    rintro k (z | z) <;> exact ⟨by omega, by omega⟩
  generalize hWW : grow (fun k => H1.next ≤ k ∧ k < H2.next) H2 H3 = W at *
  repeat' (first | refine zka ?_ | refine zkb ?_ | (apply RKp.op; ((try simp (disch := (first | exact zQ | fail)) only [go_sem]); exact zL); rfl) | refine zkc ?_ | refine zz ?_ | refine zkd ?_ | refine zke ?_ | refine zkf ?_ | (refine RKg.split (fun h => ?_) (fun h => ?_) <;> (try rw [h]) <;> (replace h := zB h) <;> (try (exfalso; first | exact h | omega))) | refine zbt ?_ | apply V.regK | refine zva ?_ | refine zvb ?_ | refine zgc ?_ | refine zvd ?_ | refine zve ?_ | (refine zvf (fun h => ?_) (fun h => ?_) <;> (replace h := zB h) <;> (try (exfalso; first | exact h | omega))) | (refine zfc Tryz.results10 ?_; (try dsimp only)))
  apply V.lpS [10, 0, 9, 11, 23, 24, 25, 26, 27, 28, 29, 30, 31, 32, 33, 34, 35, 36, 37, 38, 39, 40, 41, 42, 43, 44, 45, 46, 47, 48, 49, 50, 51, 52, 53, 54, 55, 56, 57, 58, 59, 60] (fun k xs H4 => ∃ (i p : Nat) (u : ByteArray) (o : AV) (Ua : Nat → Prop) (g : _), xs = .v (.int .i64 i) :: .v (.string u) :: o :: g ∧ k = cs.length - i ∧ i ≤ cs.length ∧ p ≤ t.size ∧ u = t.extract p t.size ∧ PPs H4 H3.next ma W (x0.write ((byL t).take p)).1 (x0.write ((byL t).take p)).2 o Ua ∧ Turn (fun k => ¬ W k) H3 H4) cs.length
  focus (intro xs; simp only [putMany, set2, Nat.reduceAdd, Nat.reduceDiv, Nat.reduceMod, nth_zero, nth_succ, List.set_cons_zero, List.set_cons_succ]; rfl)
  focus (first | rfl | simp only [readMany, nth_zero, nth_succ, Nat.reduceDiv, Nat.reduceMod])
  · exact ⟨0, 0, _, _, _, _, rfl, rfl, Nat.zero_le _, Nat.zero_le _, ByteArray.extract_zero_size.symm, ⟨hVa, OwS.nil _ _ _ _, Nat.le_refl _, fun k hk => ⟨fun z => by have := (hW3 k z).1; have := hk.2; omega, fun z => by obtain ⟨_, _, _, z⟩ := z; cases z⟩⟩, Turn.refl _ _⟩
  · rintro k xs H4 ⟨i, p, u, o, Ua, g, rfl, rfl, hi, hp, rfl, hS, hT⟩
    have hbt := byL_len t
    have hbd : ∀ c ∈ (byL t).take p, 0 ≤ c ∧ c ≤ 255 := fun c hc => byL_bd t c (List.mem_of_mem_take hc)
    have hG4 := PnG.write ((byL t).take p) hbd x0 0 hG0
    have hol := Pn.write_len ((byL t).take p) hbd x0 0 hG0
    rw [List.length_take, hbt, Nat.min_eq_left hp] at hG4 hol
    have hes : (t.extract p t.size).size = t.size - p := extract_size _ _ _ hp (Nat.le_refl _)
    obtain ⟨L, hL⟩ : ∃ L, t.size - p = L := ⟨_, rfl⟩
    rw [hL] at hes
    have hbn := hS.bn
    have lnC : ∀ G, primL 0 G (builtinA (ELo oc) .len #[59] 3 [A]) = some (.v (.int .i64 cs.length), G, rdTr A) := fun G => by
      have := len_SlH (ELo oc) 0 59 3 (H := G) (.inl hA) (by kernel_rfl)
      rw [ints_len] at this; exact this
    by_cases hc : i < cs.length ∧ i < 20 ∧ p < t.size
    · obtain ⟨c1, c2, c3⟩ := hc
      have ixC : ∀ G, primL 0 G (indexAddrA (ELo oc) 59 A (.v (.int .i64 (i : Int)))) = some (ixA A (ints cs) i, G, rdTr A) := fun G => ix_SlH (ELo oc) 0 59 .i64 (i : Int) (.inl hA) (by kernel_rfl) (by omega) (by rw [ints_len]; omega)
      have ldC : ∀ G, primL 0 G (loadA (ELo oc) 3 (ixA A (ints cs) i)) = some (.v (.int .i64 (cs.getD i 0)), G, rdTr A) := fun G => by
        rw [load_SlH (ELo oc) 0 3 i (.inl hA) (by rw [ints_len]; exact c1), nth_ints cs i c1]; rfl
      obtain ⟨kk, k1, k2, k3, k4⟩ := placeIn (c := cs.getD i 0) (L := L) (by omega)
      generalize cs.getD i 0 = c at *
      have e1 : (t.extract p t.size).extract 0 kk = t.extract p (p + kk) := by rw [ByteArray.extract_extract, Nat.min_eq_left (by omega)]; rfl
      have e2 : (t.extract p t.size).extract kk L = t.extract (p + kk) t.size := by rw [ByteArray.extract_extract, Nat.min_eq_right (by omega)]
      have sl1 : sliceA (ELo oc) 9 (.v (.string (t.extract p t.size))) none (some (.v (.int .i64 (kk : Int)))) none = .val (.v (.string (t.extract p (p + kk)))) := by
        rw [slice_str (ELo oc) 9 _ _ _ (l := 0) (r := kk) (by kernel_rfl) rfl (by rw [bound_some _ _ _ (by omega), Int.toNat_natCast]) (Nat.zero_le _) (by omega), e1]
      have sl2 : sliceA (ELo oc) 9 (.v (.string (t.extract p t.size))) (some (.v (.int .i64 (kk : Int)))) none none = .val (.v (.string (t.extract (p + kk) t.size))) := by
        rw [slice_str (ELo oc) 9 _ _ _ (l := kk) (r := L) (by kernel_rfl) (by rw [bound_some _ _ _ (by omega), Int.toNat_natCast]) (by rw [bound_none, hes]) (by omega) (by omega), e2]
      have hsz2 : (t.extract p (p + kk)).size = kk := by rw [extract_size _ _ _ (by omega) (by omega)]; omega
      have hWa := fun ys => Write_run (ys := ys) hS.pv hG4 (t.extract p (p + kk)) (by omega)
      repeat' (first | refine zka ?_ | refine zkb ?_ | (apply RKp.op; ((try simp (disch := (first | exact zQ | fail)) only [lnC, ixC, ldC, hes, k1, sl1, go_sem]); exact zL); rfl) | (apply RKp.callE; (apply hWa <;> (exact zD)); (intro x; rfl)) | refine zkc ?_ | refine zz ?_ | refine zkd ?_ | refine zke ?_ | refine zkf ?_ | (refine RKg.split (fun h => ?_) (fun h => ?_) <;> (try rw [h]) <;> (replace h := zB h) <;> (try (exfalso; first | exact h | omega))) | refine zbt ?_ | apply V.regK | refine zva ?_ | refine zvb ?_ | refine zgc ?_ | refine zvd ?_ | refine zve ?_ | (refine zvf (fun h => ?_) (fun h => ?_) <;> (replace h := zB h) <;> (try (exfalso; first | exact h | omega))) | (refine zfc Tryz.results10 ?_; (try dsimp only)))
      rintro R H5 tr5 ⟨hR, hRn, hV5, ht5⟩
      obtain ⟨hO5, hn5⟩ := hS.step hRn ht5
      have n5 := ht5.next
      have hl5 := Pn.write_len (byL (t.extract p (p + kk))) (byL_bd _) _ _ hG4
      rw [byL_len, hsz2] at hl5
      obtain ⟨o', H6, tr6, hap, hO6, hn6, hk6, hj6, hnm6⟩ := hO5.addN (ELo oc) 0 (t := 65) app_str hR hn5 (Nat.zero_le _) (by omega) (by rw [strsE_len, strsE_len, roomMax]; omega)
      repeat' (first | refine zka ?_ | refine zkb ?_ | (apply RKp.op; ((try simp (disch := (first | exact zQ | fail)) only [hap, hes, sl2, go_sem]); exact zL); rfl) | refine zkc ?_ | refine zz ?_ | refine zkd ?_ | refine zke ?_ | refine zkf ?_ | (refine RKg.split (fun h => ?_) (fun h => ?_) <;> (try rw [h]) <;> (replace h := zB h) <;> (try (exfalso; first | exact h | omega))) | refine zbt ?_ | apply V.regK | refine zva ?_ | refine zvb ?_ | refine zgc ?_ | refine zvd ?_ | refine zve ?_ | (refine zvf (fun h => ?_) (fun h => ?_) <;> (replace h := zB h) <;> (try (exfalso; first | exact h | omega))) | (refine zfc Tryz.results10 ?_; (try dsimp only)))
      have hw2 : (byL t).take (p + kk) = (byL t).take p ++ byL (t.extract p (p + kk)) := by
        rw [byL_ext, List.drop_take, show p + kk - p = kk by omega, ← List.take_add]
      refine LoopS.again (cs.length - (i + 1)) (by rfl) (by omega) ⟨i + 1, p + kk, _, o', fun k => grow Ua H4 H5 k ∧ ¬ nmO R k, _, rfl, rfl, by omega, by omega, rfl, ?_, ?_⟩
      · rw [hw2, Pn.write_app]
        exact hS.step2 hRn hV5 ht5 (fun k hk => (hW3 k hk).2) hO6 hn6 hk6 hj6 hnm6
      · refine ⟨by omega, hj6.trans (ht5.js.trans hT.js), fun k h1 h2 => ?_⟩
        have h2 := Classical.not_not.1 h2
        rw [hk6 k (by omega) (fun z => by have := (hS.ow.nm z).1; omega), ht5.keep k (by omega) (fun z => (hS.d1 k z).1 h2), hT.keep k h1 (fun z => z h2)]
    · have hWa := fun ys => Write_run (ys := ys) hS.pv hG4 (t.extract p t.size) (by omega)
      have hc' : ¬ i < cs.length ∨ i < cs.length ∧ ¬ i < 20 ∨ i < cs.length ∧ i < 20 ∧ ¬ p < t.size := by omega
      rcases hc' with h1 | ⟨h1, h2⟩ | ⟨h1, h2, h3⟩
      all_goals
        repeat' (first | refine zka ?_ | refine zkb ?_ | (apply RKp.op; ((try simp (disch := (first | exact zQ | fail)) only [lnC, hes, go_sem]); exact zL); rfl) | (apply RKp.callE; (apply hWa <;> (exact zD)); (intro x; rfl)) | refine zkc ?_ | refine zz ?_ | refine zkd ?_ | refine zke ?_ | refine zkf ?_ | (refine RKg.split (fun h => ?_) (fun h => ?_) <;> (try rw [h]) <;> (replace h := zB h) <;> (try (exfalso; first | exact h | omega))) | refine zbt ?_ | apply V.regK | refine zva ?_ | refine zvb ?_ | refine zgc ?_ | refine zvd ?_ | refine zve ?_ | (refine zvf (fun h => ?_) (fun h => ?_) <;> (replace h := zB h) <;> (try (exfalso; first | exact h | omega))) | (refine zfc Tryz.results10 ?_; (try dsimp only)))
      all_goals
        rintro R H5 tr5 ⟨hR, hRn, hV5, ht5⟩
        obtain ⟨hO5, hn5⟩ := hS.step hRn ht5
        have n5 := ht5.next
        have hszL : (t.extract p t.size).size ≤ 200 := by omega
        have hl5 := Pn.write_len (byL (t.extract p t.size)) (byL_bd _) _ _ hG4
        rw [byL_len] at hl5
        obtain ⟨o', H6, tr6, hap, hO6, hn6, hk6, hj6, hnm6⟩ := hO5.addN (ELo oc) 0 (t := 65) app_str hR hn5 (Nat.zero_le _) (by omega) (by rw [strsE_len, strsE_len, roomMax]; omega)
        have hS6 := hS.step2 hRn hV5 ht5 (fun k hk => (hW3 k hk).2) hO6 hn6 hk6 hj6 hnm6
        have hT6 : Turn (fun k => ¬ W k) H3 H6 := by
          refine ⟨by omega, hj6.trans (ht5.js.trans hT.js), fun k h1 h2 => ?_⟩
          have h2 := Classical.not_not.1 h2
          rw [hk6 k (by omega) (fun z => by have := (hS.ow.nm z).1; omega), ht5.keep k (by omega) (fun z => (hS.d1 k z).1 h2), hT.keep k h1 (fun z => z h2)]
        have hwx := Pn.write_app ((byL t).take p) (byL (t.extract p t.size)) x0
        have hwt : (byL t).take p ++ byL (t.extract p t.size) = byL t := by
          rw [byL_ext, show (byL t).take t.size = byL t from List.take_of_length_le (by rw [hbt]; exact Nat.le_refl _), List.take_append_drop]
        rw [hwt] at hwx
        have hw1 := congrArg Prod.fst hwx
        have hw2 := congrArg Prod.snd hwx
        dsimp only at hw1 hw2
        rw [← hw1, ← hw2] at hS6
        have hGx := PnG.write (byL t) (byL_bd t) x0 0 hG0
        have hll := Pn.write_len (byL t) (byL_bd t) x0 0 hG0
        rw [hbt] at hll
        generalize x0.write (byL t) = yy at *
        obtain ⟨y, all⟩ := yy
        dsimp only at hS6 hGx hll hVb hRb
        have hRb6 := hRb.turn hT6 (fun k hk z => z (hgW k hk))
        have hVb6 := hVb.off hT6 (fun k hk z => z hk.1)
        have hO6s := hS6.ow.slh
        have lnO := len_SlH (ELo oc) 0 65 3 hO6s (by kernel_rfl)
        have lnB := len_SlH (ELo oc) 0 65 3 hRb6 (by kernel_rfl)
        rw [strsE_len] at lnO lnB
        repeat' (first | refine zka ?_ | refine zkb ?_ | (apply RKp.op; ((try simp (disch := (first | exact zQ | fail)) only [hap, lnO, lnB, go_sem]); exact zL); rfl) | refine zkc ?_ | refine zz ?_ | refine zkd ?_ | refine zke ?_ | refine zkf ?_ | (refine RKg.split (fun h => ?_) (fun h => ?_) <;> (try rw [h]) <;> (replace h := zB h) <;> (try (exfalso; first | exact h | omega))) | refine zbt ?_ | apply V.regK | refine zva ?_ | refine zvb ?_ | refine zgc ?_ | refine zvd ?_ | refine zve ?_ | (refine zvf (fun h => ?_) (fun h => ?_) <;> (replace h := zB h) <;> (try (exfalso; first | exact h | omega))) | (refine zfc Tryz.results10 ?_; (try dsimp only)))
        apply V.lpS [12, 4, 71, 72, 73, 74, 75, 76, 77, 78, 79, 80, 81, 82, 83, 84, 85] (fun k xs H7 => ∃ (j : Nat) (g : _), xs = .v (.int .i64 j) :: g ∧ k = all.length - j ∧ j ≤ all.length ∧ H7 = H6) all.length
        focus (intro xs; simp only [putMany, set2, Nat.reduceAdd, Nat.reduceDiv, Nat.reduceMod, nth_zero, nth_succ, List.set_cons_zero, List.set_cons_succ]; rfl)
        focus (first | rfl | simp only [readMany, nth_zero, nth_succ, Nat.reduceDiv, Nat.reduceMod])
        · exact ⟨0, _, rfl, rfl, Nat.zero_le _, rfl⟩
        · rintro k xs H7 ⟨j, g2, rfl, rfl, hj, rfl⟩
          by_cases hjl : j < all.length
          · have ixO := ix_SlH (ELo oc) 0 65 .i64 (j : Int) hO6s (by kernel_rfl) (by omega) (by rw [strsE_len]; omega)
            have ixB := ix_SlH (ELo oc) 0 65 .i64 (j : Int) hRb6 (by kernel_rfl) (by omega) (by rw [strsE_len]; omega)
            have ldO : primL 0 H7 (loadA (ELo oc) 9 (ixA o' (strsE all) j)) = some (.v (.string (all.getD j ⟨#[]⟩)), H7, rdTr o') := by
              rw [load_SlH (ELo oc) 0 9 j hO6s (by rw [strsE_len]; exact hjl), nth_strsE all j hjl]; rfl
            have ldB : primL 0 H7 (loadA (ELo oc) 9 (ixA Rb (strsE all) j)) = some (.v (.string (all.getD j ⟨#[]⟩)), H7, rdTr Rb) := by
              rw [load_SlH (ELo oc) 0 9 j hRb6 (by rw [strsE_len]; exact hjl), nth_strsE all j hjl]; rfl
            rw [Int.toNat_natCast] at ixO ixB
            have hsq : ((all.getD j ⟨#[]⟩).toList == (all.getD j ⟨#[]⟩).toList) = true := beq_self_eq_true _
            repeat' (first | refine zka ?_ | refine zkb ?_ | (apply RKp.op; ((try simp (disch := (first | exact zQ | fail)) only [lnO, ixO, ixB, ldO, ldB, hsq, go_sem]); exact zL); rfl) | refine zkc ?_ | refine zz ?_ | refine zkd ?_ | refine zke ?_ | refine zkf ?_ | (refine RKg.split (fun h => ?_) (fun h => ?_) <;> (try rw [h]) <;> (replace h := zB h) <;> (try (exfalso; first | exact h | omega))) | refine zbt ?_ | apply V.regK | refine zva ?_ | refine zvb ?_ | refine zgc ?_ | refine zvd ?_ | refine zve ?_ | (refine zvf (fun h => ?_) (fun h => ?_) <;> (replace h := zB h) <;> (try (exfalso; first | exact h | omega))) | (refine zfc Tryz.results10 ?_; (try dsimp only)))
            exact LoopS.again (all.length - (j + 1)) (by rfl) (by omega) ⟨j + 1, _, rfl, rfl, by omega, rfl⟩
          · obtain rfl : j = all.length := by omega
            have hRa := fun ys => paneRows_run (ys := ys) (lo := 0) hS6.pv hGx
            have hRb' := fun ys => paneRows_run (ys := ys) (lo := 0) hVb6 hGx
            obtain ⟨F, G, C, A1, X, any, sp, sm, se, hPa, -⟩ := hS6.pv.ex
            obtain ⟨F', G', C', A1', X', any', sp', sm', se', hPb, -⟩ := hVb6.ex
            have gSa := hPa.s.blk
            have gSb := hPb.s.blk
            have hSa := fun ys => paneScreen_run (ys := ys) (lo := 0) hPa
            have hSb := fun ys => paneScreen_run (ys := ys) (lo := 0) hPb
            have hCa := fun ys => Cursor_run (ys := ys) (lo := 0) hPa.s
            have hCb := fun ys => Cursor_run (ys := ys) (lo := 0) hPb.s
            have hrl : ∀ r ∈ y.old ++ y.s.rows, r.1.length < 2 ^ 40 := fun r hr => by
              rcases List.mem_append.1 hr with z | z
              · have := (hPa.h.ok r z).1.1; omega
              · have := (hGx.sg.rw r z).1.1; omega
            have hll2 : (y.old ++ y.s.rows).length < 2 ^ 40 := by
              rw [List.length_append]
              have := hGx.ol; have := hGx.l1; have := hGx.sg.len; have := hGx.sg.h2; omega
            have heq : ∀ ys G, CallRo (ELo oc) ys 0 30 [.sl 2 (rowsA (y.old ++ y.s.rows)), .sl 2 (rowsA (y.old ++ y.s.rows))] G (.v (.bool true)) := fun ys G => by
              have := EqRows_run (ys := ys) (lo := 0) (H := G) (l := y.old ++ y.s.rows) (l' := y.old ++ y.s.rows) (.inl (.inl rfl)) (.inl (.inl rfl)) hll2 hll2 hrl hrl
              rwa [decide_eq_true rfl] at this
            repeat' (first | refine zka ?_ | refine zkb ?_ | (apply RKp.op; ((try simp (disch := (first | exact zQ | fail)) only [lnO, gSa, gSb, go_sem]); exact zL); rfl) | (apply RKp.call; (apply hRb' <;> (exact zD)); rfl) | (apply RKp.callR; ((first | apply hRa | apply hRb' | apply heq | apply hSa | apply hSb | apply hCa | apply hCb) <;> (exact zD)); rfl; intro tr htr) | (apply RKp.callO; (apply hRb' <;> (exact zD)); rfl; intro tr) | (apply RKp.callRE; (apply hRb' <;> (exact zD)); (intro x; rfl)) | (apply RKp.callE; (apply hRb' <;> (exact zD)); (intro x; rfl)) | refine zkc ?_ | refine zz ?_ | refine zkd ?_ | refine zke ?_ | refine zkf ?_ | (refine RKg.split (fun h => ?_) (fun h => ?_) <;> (try rw [h]) <;> (replace h := zB h) <;> (try (exfalso; first | exact h | omega))) | refine zbt ?_ | apply V.regK | refine zva ?_ | refine zvb ?_ | refine zgc ?_ | refine zvd ?_ | refine zve ?_ | (refine zvf (fun h => ?_) (fun h => ?_) <;> (replace h := zB h) <;> (try (exfalso; first | exact h | omega))) | (refine zfc Tryz.results10 ?_; (try dsimp only)))
            simp
end
end Go.Am

namespace Go.Am
variable {oc : Orc} [OrcI oc] [OrcF oc]
open Go.Proofs
set_option maxRecDepth 8000
set_option maxHeartbeats 8000000

/-- The one pane like the other, but for what it keeps. -/
structure Lim (L : Int) (a b : Pn) : Prop where
  p : a.p = b.p
  w : a.w = b.w
  t : a.t = b.t
  s : a.s = b.s
  l : a.lim = L
  m : b.lim = 1000
  o : a.old = cutR L b.old
theorem cutR_id {lim : Int} {l : List Rw} (h : (l.length : Int) ≤ lim) : cutR lim l = l := by unfold cutR; rw [show ((l.length : Int) - lim).toNat = 0 by omega]; rfl
theorem cutR_cut {L : Int} (h : 0 ≤ L) (l m : List Rw) : cutR L (cutR L l ++ m) = cutR L (l ++ m) := by
  unfold cutR
  rw [List.length_append, List.length_append, List.length_drop]
  by_cases h1 : (l.length : Int) ≤ L
  · rw [show ((l.length : Int) - L).toNat = 0 by omega]; rfl
  · rw [← List.drop_append_of_le_length (l₁ := l) (l₂ := m) (by omega), List.drop_drop]
    congr 1; omega
theorem addRs_cut {L : Int} (hL : 0 ≤ L) (l : List Rw) : ∀ old : List Rw, ((old.length : Int) + l.length ≤ 1000) → addRs L (cutR L old) l = cutR L (addRs 1000 old l) ∧ (addRs 1000 old l).length = old.length + l.length := by
  induction l with
  | nil => intro old _; exact ⟨rfl, rfl⟩
  | cons r l ih =>
    intro old h
    rw [List.length_cons] at h
    have e : cutR 1000 (old ++ [r]) = old ++ [r] := cutR_id (by rw [List.length_append, List.length_singleton]; omega)
    obtain ⟨h1, h2⟩ := ih (old ++ [r]) (by rw [List.length_append, List.length_singleton]; omega)
    refine ⟨?_, ?_⟩
    · show addRs L (cutR L (cutR L old ++ [r])) l = cutR L (addRs 1000 (cutR 1000 (old ++ [r])) l)
      rw [cutR_cut hL, e, h1]
    · show (addRs 1000 (cutR 1000 (old ++ [r])) l).length = _
      rw [e, h2, List.length_append, List.length_singleton, List.length_cons]; omega
theorem Lim.rune {L : Int} (hL : 0 ≤ L) {a b : Pn} (h : Lim L a b) (r : Int) (hl : b.old.length < 1000) : Lim L (a.rune r).1 (b.rune r).1 ∧ (b.rune r).1.old.length ≤ b.old.length + 1 := by
  obtain ⟨h1, h2, h3, h4, h5, h6, h7⟩ := h
  cases hev : (put b.w b.t r).2.2 with
  | none =>
    have hev' : (put a.w a.t r).2.2 = none := by rw [h2, h3]; exact hev
    rw [Pn.rune_none hev, Pn.rune_none hev']
    exact ⟨⟨h1, by rw [h2, h3], by rw [h2, h3], h4, h5, h6, h7⟩, Nat.le_succ _⟩
  | some e =>
    have hev' : (put a.w a.t r).2.2 = some e := by rw [h2, h3]; exact hev
    rw [Pn.rune_some hev, Pn.rune_some hev']
    have h8 := ev_out3 b.s e.kind e.r e.args
    obtain ⟨g1, g2⟩ := addRs_cut hL (b.s.ev e.kind e.r e.args).2 b.old (by omega)
    refine ⟨⟨h1, by rw [h2, h3], by rw [h2, h3], by rw [h4], h5, h6, ?_⟩, ?_⟩
    · dsimp only
      rw [h4, h5, h6, h7]; exact g1
    · dsimp only
      rw [h6, g2]; omega
theorem Lim.runes {L : Int} (hL : 0 ≤ L) (l : List Int) : ∀ {a b : Pn}, Lim L a b → b.old.length + l.length < 1000 → Lim L (a.runes l).1 (b.runes l).1 ∧ (b.runes l).1.old.length ≤ b.old.length + l.length := by
  induction l with
  | nil => intro a b h _; exact ⟨h, Nat.le_refl _⟩
  | cons r l ih =>
    intro a b h hl
    rw [List.length_cons] at hl
    obtain ⟨g1, g2⟩ := h.rune hL r (by omega)
    obtain ⟨g3, g4⟩ := ih g1 (by omega)
    exact ⟨g3, by show ((b.rune r).1.runes l).1.old.length ≤ _; rw [List.length_cons]; omega⟩
theorem Lim.write {L : Int} (hL : 0 ≤ L) (l : List Int) (hl : ∀ c ∈ l, 0 ≤ c ∧ c ≤ 255) : ∀ {a b : Pn} {b0 : Nat}, PnG b b0 → Lim L a b → b.old.length + 2 * l.length < 1000 → Lim L (a.write l).1 (b.write l).1 ∧ (b.write l).1.old.length ≤ b.old.length + 2 * l.length := by
  induction l with
  | nil => intro a b b0 _ h _; exact ⟨h, Nat.le_refl _⟩
  | cons c l ih =>
    intro a b b0 hg h hb
    rw [List.length_cons] at hb
    have hc := hl c List.mem_cons_self
    have h2 := (stepU_out hg.pend hc).1
    have h0 : Lim L { a with p := (stepU a.p c).1 } { b with p := (stepU b.p c).1 } := ⟨by dsimp only; rw [h.p], h.w, h.t, h.s, h.l, h.m, h.o⟩
    obtain ⟨g1, g2⟩ := Lim.runes hL (stepU b.p c).2 h0 (by show b.old.length + _ < _; omega)
    have e : a.byte c = Pn.runes { a with p := (stepU a.p c).1 } (stepU b.p c).2 := by rw [← h.p]; rfl
    rw [← e] at g1
    have g2 : (b.byte c).1.old.length ≤ b.old.length + (stepU b.p c).2.length := g2
    obtain ⟨g3, g4⟩ := ih (fun y hy => hl y (List.mem_cons_of_mem _ hy)) (hg.byte hc) g1 (by omega)
    exact ⟨g3, by show ((b.byte c).1.write l).1.old.length ≤ _; rw [List.length_cons]; omega⟩
theorem mod20 (a : Int) : (a.tmod 20 + 20).tmod 20 = a % 20 ∧ -20 ≤ a.tmod 20 ∧ a.tmod 20 ≤ 20 := by
  rcases Int.le_total 0 a with h | h
  · rw [Int.tmod_eq_emod_of_nonneg h, Int.tmod_eq_emod_of_nonneg (by omega)]; omega
  · have e : a.tmod 20 = -((-a) % 20) := by rw [← Int.tmod_eq_emod_of_nonneg (by omega), Int.neg_tmod]; omega
    rw [e, Int.tmod_eq_emod_of_nonneg (by omega)]; omega
section
variable {ys : List (Nat × LRec)} {H : AHeap}
theorem PaneLimit_law (hbe : ∀ (ys : List (Nat × LRec)) (lo : Nat) (H : AHeap), CallR (ELo oc) ys lo 22 [] H (.v (.bool true)) H ⟨0, 0, 0⟩) (s : ByteArray) (z : Int) : WC (ELo oc) [] 0 11 [.v (.string s), .v (.int .i64 z)] .empty fun x _ => x = .v (.bool true) := by
  have hsz : (s.extract 0 (min s.size 200)).size ≤ 200 := by rw [extract_size _ _ _ (Nat.zero_le _) (by omega)]; omega
  have hsh := fun ys G => Short_run (ys := ys) (lo := 0) (H := G) s 200
  generalize s.extract 0 (min s.size 200) = t at *
  obtain ⟨k1, k2, k3⟩ := mod20 z
  obtain ⟨L, hL⟩ : ∃ L, z % 20 = L := ⟨_, rfl⟩
  rw [hL] at k1
  have hL0 : 0 ≤ L ∧ L < 20 := by omega
  refine zvin Tryz.func11 Tryz.ntmps11 ?_
  repeat' (first | refine zka ?_ | refine zkb ?_ | (apply RKp.op; ((try simp (disch := (first | exact zQ | fail)) only [k1, go_sem]); exact zL); rfl) | (apply RKp.call; ((first | apply hbe | apply hsh) <;> (exact zD)); rfl) | (apply RKp.callR; (apply hbe <;> (exact zD)); rfl; intro tr htr) | (apply RKp.callO; (apply hbe <;> (exact zD)); rfl; intro tr) | (apply RKp.callRE; (apply hbe <;> (exact zD)); (intro x; rfl)) | (apply RKp.callE; ((first | apply hbe | apply paneNew_run) <;> (exact zD)); (intro x; rfl)) | refine zkc ?_ | refine zz ?_ | refine zkd ?_ | refine zke ?_ | refine zkf ?_ | (refine RKg.split (fun h => ?_) (fun h => ?_) <;> (try rw [h]) <;> (replace h := zB h) <;> (try (exfalso; first | exact h | omega))) | refine zbt ?_ | apply V.regK | refine zvd ?_ | refine zve ?_ | (refine zvf (fun h => ?_) (fun h => ?_) <;> (replace h := zB h) <;> (try (exfalso; first | exact h | omega))) | (refine zfc Tryz.results11 ?_; (try dsimp only)))
  rintro _ H1 tr1 ⟨ma, rfl, hV1, hx1, hj1⟩
  repeat' (first | refine zka ?_ | refine zkb ?_ | (apply RKp.op; ((try simp (disch := (first | exact zQ | fail)) only [go_sem]); exact zL); rfl) | (apply RKp.callE; (apply paneNew_run <;> (exact zD)); (intro x; rfl)) | refine zkc ?_ | refine zz ?_ | refine zkd ?_ | refine zke ?_ | refine zkf ?_ | (refine RKg.split (fun h => ?_) (fun h => ?_) <;> (try rw [h]) <;> (replace h := zB h) <;> (try (exfalso; first | exact h | omega))) | refine zbt ?_ | apply V.regK | refine zvd ?_ | refine zve ?_ | (refine zvf (fun h => ?_) (fun h => ?_) <;> (replace h := zB h) <;> (try (exfalso; first | exact h | omega))) | (refine zfc Tryz.results11 ?_; (try dsimp only)))
  rintro _ H2 tr2 ⟨mb, rfl, hV2, hx2, hj2⟩
  have hGa : PnG (Pn.new 5 2 L) 0 := PnG.new 5 2 L
  have hGb : PnG (Pn.new 5 2 1000) 0 := PnG.new 5 2 1000
  have hlm : Lim L (Pn.new 5 2 L) (Pn.new 5 2 1000) := ⟨rfl, rfl, rfl, rfl, by show min (max L 0) 1000000 = L; omega, rfl, by show ([] : List Rw) = cutR L []; unfold cutR; rw [List.drop_nil]⟩
  have hlb := byL_len t
  obtain ⟨hLw, -⟩ := Lim.write hL0.1 (byL t) (byL_bd t) hGb hlm (by show 0 + _ < _; omega)
  have hGa2 := PnG.write (byL t) (byL_bd t) _ 0 hGa
  have hGb2 := PnG.write (byL t) (byL_bd t) _ 0 hGb
  generalize Pn.new 5 2 L = x0 at *
  generalize Pn.new 5 2 1000 = y0 at *
  have n1 := hx1.next
  have n2 := hx2.next
  have hV1b := hV1.ext hx2
  have hWa := fun ys => Write_run (ys := ys) hV1b hGa t (by omega)
  repeat' (first | refine zka ?_ | refine zkb ?_ | (apply RKp.op; ((try simp (disch := (first | exact zQ | fail)) only [go_sem]); exact zL); rfl) | (apply RKp.callE; (apply hWa <;> (exact zD)); (intro x; rfl)) | refine zkc ?_ | refine zz ?_ | refine zkd ?_ | refine zke ?_ | refine zkf ?_ | (refine RKg.split (fun h => ?_) (fun h => ?_) <;> (try rw [h]) <;> (replace h := zB h) <;> (try (exfalso; first | exact h | omega))) | refine zbt ?_ | apply V.regK | refine zvd ?_ | refine zve ?_ | (refine zvf (fun h => ?_) (fun h => ?_) <;> (replace h := zB h) <;> (try (exfalso; first | exact h | omega))) | (refine zfc Tryz.results11 ?_; (try dsimp only)))
  rintro Ra H3 tr3 ⟨hRa, hRan, hVa, hta⟩
  have n3 := hta.next
  have hVb := hV2.off hta (fun k hk z => by have := hk.1; have := z.2; omega)
  have hWb := fun ys => Write_run (ys := ys) hVb hGb t (by omega)
  repeat' (first | refine zka ?_ | refine zkb ?_ | (apply RKp.op; ((try simp (disch := (first | exact zQ | fail)) only [go_sem]); exact zL); rfl) | (apply RKp.callE; (apply hWb <;> (exact zD)); (intro x; rfl)) | refine zkc ?_ | refine zz ?_ | refine zkd ?_ | refine zke ?_ | refine zkf ?_ | (refine RKg.split (fun h => ?_) (fun h => ?_) <;> (try rw [h]) <;> (replace h := zB h) <;> (try (exfalso; first | exact h | omega))) | refine zbt ?_ | apply V.regK | refine zvd ?_ | refine zve ?_ | (refine zvf (fun h => ?_) (fun h => ?_) <;> (replace h := zB h) <;> (try (exfalso; first | exact h | omega))) | (refine zfc Tryz.results11 ?_; (try dsimp only)))
  rintro Rb H4 tr4 ⟨hRb, hRbn, hVb4, htb⟩
  have hVa4 := hVa.off htb (fun k hk z => by
    have h1 := z.1; have h2 := z.2
    rcases hk.1 with y | ⟨y, _⟩
    · have := y.2; omega
    · omega)
  generalize (x0.write (byL t)).1 = x at *
  generalize (y0.write (byL t)).1 = y at *
  have hRa := fun ys => paneRows_run (ys := ys) (lo := 0) hVa4 hGa2
  have hRb := fun ys => paneRows_run (ys := ys) (lo := 0) hVb4 hGb2
  have hHa := fun ys => paneHistory_run (ys := ys) (lo := 0) hVa4
  have hHb := fun ys => paneHistory_run (ys := ys) (lo := 0) hVb4
  have hrk : ∀ r ∈ y.old ++ y.s.rows, r.1.length < 2 ^ 40 := fun r hr => by
    obtain ⟨F, G, C, A1, X, any, sp, sm, se, hPb, -⟩ := hVb4.ex
    rcases List.mem_append.1 hr with z | z
    · have := (hPb.h.ok r z).1.1; omega
    · have := (hGb2.sg.rw r z).1.1; omega
  have hll2 : (y.old ++ y.s.rows).length < 2 ^ 40 := by
    rw [List.length_append]
    have := hGb2.ol; have := hGb2.l1; have := hGb2.sg.len; have := hGb2.sg.h2; omega
  obtain ⟨d, hd⟩ : ∃ d, ((y.old.length : Int) - L).toNat = d := ⟨_, rfl⟩
  have hx : x.old = y.old.drop d := by rw [hLw.o]; unfold cutR; rw [hd]
  have ho : (x.old.length : Int) = min L (y.old.length : Int) := by rw [hx, List.length_drop]; omega
  have hdl : d ≤ y.old.length := by omega
  have hxx : x.old ++ x.s.rows = (y.old ++ y.s.rows).drop d := by rw [hx, hLw.s, List.drop_append_of_le_length hdl]
  have hdR : d ≤ (y.old ++ y.s.rows).length := by rw [List.length_append]; omega
  rw [hxx] at hRa
  generalize y.old ++ y.s.rows = R at *
  have l1 : (rowsA (R.drop d)).length = R.length - d := by rw [rowsA_len, List.length_drop]
  have l2 := rowsA_len R
  have hwr : IntKind.i64.wrap ((R.length : Int) - ((R.length - d : Nat) : Int)) = (d : Int) := by rw [IntWalk.i64_in _ (by omega)]; omega
  have hle : ((R.length - d : Nat) : Int) ≤ (R.length : Int) := by omega
  have slF : ∀ G, primL 0 G (sliceA (ELo oc) 22 (.sl 2 (rowsA R)) (some (.v (.int .i64 (d : Int)))) none none) = some (.sl 2 (rowsA (R.drop d)), G, ⟨0, 0, 0⟩) := fun G => by
    rw [slice_SlH (ELo oc) 0 (t := 22) (size := 2) (H := G) (es := rowsA R) (by kernel_rfl) (.inl (.inl rfl)) _ _ (l := d) (r := R.length) (by rw [bound_some _ _ _ (by omega), Int.toNat_natCast]) (by rw [bound_none, l2]) hdR (by rw [l2]; exact Nat.le_refl _)]
    have e : cutA (.sl 2 (rowsA R)) d R.length = .sl 2 (rowsA (R.drop d)) := by
      show AV.sl 2 (((rowsA R).drop d).take (R.length - d)) = _
      rw [List.take_of_length_le (by rw [List.length_drop, l2]; exact Nat.le_refl _)]
      unfold rowsA; rw [List.map_drop]
    rw [e]; rfl
  have heq : ∀ ys G, CallRo (ELo oc) ys 0 30 [.sl 2 (rowsA (R.drop d)), .sl 2 (rowsA (R.drop d))] G (.v (.bool true)) := fun ys G => by
    have := EqRows_run (ys := ys) (lo := 0) (H := G) (l := R.drop d) (l' := R.drop d) (.inl (.inl rfl)) (.inl (.inl rfl)) (by rw [List.length_drop]; omega) (by rw [List.length_drop]; omega) (fun r hr => hrk r (List.mem_of_mem_drop hr)) (fun r hr => hrk r (List.mem_of_mem_drop hr))
    rwa [decide_eq_true rfl] at this
  repeat' (first | refine zka ?_ | refine zkb ?_ | (apply RKp.op; ((try simp (disch := (first | exact zQ | fail)) only [k1, ho, l1, l2, hwr, hle, slF, go_sem]); exact zL); rfl) | (apply RKp.callR; ((first | apply hRa | apply hRb | apply hHa | apply hHb | apply heq) <;> (exact zD)); rfl; intro tr htr) | refine zkc ?_ | refine zz ?_ | refine zkd ?_ | refine zke ?_ | refine zkf ?_ | (refine RKg.split (fun h => ?_) (fun h => ?_) <;> (try rw [h]) <;> (replace h := zB h) <;> (try (exfalso; first | exact h | omega))) | refine zbt ?_ | apply V.regK | refine zvd ?_ | refine zve ?_ | (refine zvf (fun h => ?_) (fun h => ?_) <;> (replace h := zB h) <;> (try (exfalso; first | exact h | omega))) | (refine zfc Tryz.results11 ?_; (try dsimp only)))
  all_goals rfl
end
end Go.Am
