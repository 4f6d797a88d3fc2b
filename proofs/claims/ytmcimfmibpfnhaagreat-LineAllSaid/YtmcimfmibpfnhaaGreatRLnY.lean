
/- LineAll: rows as lines, lines laid out, places, spots: the document's. -/
import Derived.Test.YtmcimfmibpfnhaaGreatRLnX
import Derived.Test.YtmcimfmibpfnhaaGreatRLnW
set_option linter.all false
set_option linter.deprecated false
namespace Go.Am
variable {oc : Orc} [OrcI oc]
open Go.Proofs
set_option maxRecDepth 100000
set_option maxHeartbeats 8000000
section
variable {A B : AV} {es fs : List (List AV)} {a : List Rw} {ls : List (List Ce)}
theorem LineAll_law (hbe : ∀ ys lo H, CallR (ELo oc) ys lo 22 [] H (.v (.bool true)) H ⟨0, 0, 0⟩) (hA : Sl 2 A es) (hl : es.length < 2 ^ 63) (hE : RsB es a) (hB : Sl 1 B fs) (hl2 : fs.length < 2 ^ 63) (hF : LsB fs ls) (w : Int) (hw : -9223372036854775808 ≤ w ∧ w ≤ 9223372036854775807) (pr pc line off past : Int) : WC (ELo oc) [] 0 3 [A, B, .v (.int .i64 w), .agg [.v (.int .i64 pr), .v (.int .i64 pc)], .agg [.v (.int .i64 line), .v (.int .i64 off), .v (.int .i64 past)]] .empty fun x _ => x = .v (.bool true) := by
  generalize hEm : AHeap.empty = H0
  have hRa := fun ys G => Rows_run (ys := ys) (lo := 0) (H := G) (.inl hA) hE hl
  have hLs := fun ys G => Lines_run (ys := ys) (lo := 0) (H := G) (.inl hB) hF hl2
  refine zvin Tryz.func3 Tryz.ntmps3 ?_
  repeat' (first | refine zka ?_ | refine zkb ?_ | (apply RKp.op; ((try simp (disch := (first | omega | exact zX | exact zO | fail)) only [go_sem, Nat.reduceDiv, Nat.reduceMod, Nat.reduceAdd, Nat.reduceSub, Nat.reduceEqDiff, Nat.reduceLeDiff, Nat.reduceLT, Nat.reduceMul, reduceIte, Nat.reducePow, Int.reduceEq]); exact zL); rfl) | (apply RKp.call; (apply hbe <;> (exact zD)); rfl) | (apply RKp.callR; (apply hbe <;> (exact zD)); rfl; intro tr htr) | (apply RKp.callO; (apply hbe <;> (exact zD)); rfl; intro tr) | (apply RKp.callRE; (apply hbe <;> (exact zD)); (intro x; rfl)) | (apply RKp.callE; (apply hbe <;> (exact zD)); (intro x; rfl)) | (apply RKp.callNE; (apply hRa <;> (exact zD)); (intro x; rfl)) | refine zkc ?_ | apply RKg.tt | apply RKg.ff | refine zkd ?_ | refine zke ?_ | refine zkf ?_ | (refine RKg.split (fun h => ?_) (fun h => ?_) <;> (try rw [h]) <;> (replace h := zB h) <;> (try (exfalso; first | exact h | omega))) | apply RK.nil | apply V.sq | apply V.bl | apply V.sc | apply V.skip | apply V.label | apply V.ret | apply V.exit | apply SeqQ.normal | apply SeqQ.ret | apply SeqQ.exit | apply BlockQ.normal | apply BlockQ.ret | apply BlockQ.here | refine zbt ?_ | apply LoopS.ret | apply LoopS.exit | apply LoopF.ret | apply LoopF.exit | apply V.regK | refine zva ?_ | refine zvb ?_ | refine zgc ?_ | refine zvd ?_ | refine zve ?_ | (refine zvf (fun h => ?_) (fun h => ?_) <;> (replace h := zB h) <;> (try (exfalso; first | exact h | omega))) | (refine zfc Tryz.results3 ?_; (try dsimp only)))
  rintro x H1 tr htr ⟨es1, ho1, hr1, hx1, -⟩
  have hn1 := hx1.next
  rw [next_push, next_push] at hn1
  have hla := rowsT_len a
  generalize rowsT a = ra at *
  have hX : SlH H1 2 x es1 := ho1.slh
  have p0 : H1.get H0.next = some (poBlk pr pc) := by rw [hx1.get _ (by (first | omega | (simp only [next_push, next_set, next_empty]; done) | (simp only [next_push, next_set, next_empty]; omega)))]; simp (disch := (first | omega | exact zX | fail)) only [get_set, get_push, next_push, next_set, if_pos', if_neg', if_true, if_false, reduceIte]
  have p1 : H1.get (H0.next + 1) = some (spBlk line off past) := by rw [hx1.get _ (by (first | omega | (simp only [next_push, next_set, next_empty]; done) | (simp only [next_push, next_set, next_empty]; omega)))]; simp (disch := (first | omega | exact zX | fail)) only [get_set, get_push, next_push, next_set, if_pos', if_neg', if_true, if_false, reduceIte]
  repeat' (first | refine zka ?_ | refine zkb ?_ | (apply RKp.op; ((try simp (disch := (first | omega | exact zX | exact zO | fail)) only [go_sem, Nat.reduceDiv, Nat.reduceMod, Nat.reduceAdd, Nat.reduceSub, Nat.reduceEqDiff, Nat.reduceLeDiff, Nat.reduceLT, Nat.reduceMul, reduceIte, Nat.reducePow, Int.reduceEq]); exact zL); rfl) | (apply RKp.callRE; (apply hLs <;> (exact zD)); (intro x; rfl)) | refine zkc ?_ | apply RKg.tt | apply RKg.ff | refine zkd ?_ | refine zke ?_ | refine zkf ?_ | (refine RKg.split (fun h => ?_) (fun h => ?_) <;> (try rw [h]) <;> (replace h := zB h) <;> (try (exfalso; first | exact h | omega))) | apply RK.nil | apply V.sq | apply V.bl | apply V.sc | apply V.skip | apply V.label | apply V.ret | apply V.exit | apply SeqQ.normal | apply SeqQ.ret | apply SeqQ.exit | apply BlockQ.normal | apply BlockQ.ret | apply BlockQ.here | refine zbt ?_ | apply LoopS.ret | apply LoopS.exit | apply LoopF.ret | apply LoopF.exit | apply V.regK | refine zva ?_ | refine zvb ?_ | refine zgc ?_ | refine zvd ?_ | refine zve ?_ | (refine zvf (fun h => ?_) (fun h => ?_) <;> (replace h := zB h) <;> (try (exfalso; first | exact h | omega))) | (refine zfc Tryz.results3 ?_; (try dsimp only)))
  rintro y tr2 htr2 ⟨es2, hy, hls⟩
  have hgl := fun l hl => (linesL_G (ls := ls) l hl).1
  have hg40 := fun l hl => (linesL_G (ls := ls) l hl).2
  have hl10 := linesL_len ls
  generalize linesL ls = L at *
  obtain ⟨hj1, hj2⟩ := joinL_sz hr1 hla
  have hbd := allL_bd L w hl10 hg40
  have hln : ∀ j, j < L.length → (L.getD j []).length ≤ 40 := fun j hj => hg40 _ (getD_memL (d := []) hj)
  have hAl := fun ys G => All_run (ys := ys) (lo := 0) (H := G) (.inl hy) hls w (by omega) (by omega)
  have hAr := fun ys G => refAll_run (ys := ys) (lo := 0) (H := G) (.inl hy) hls w (by omega) (by omega) (fun j hj => by have := hln j hj; omega)
  have hr2 := RsP.allL w (hls.mem)
  have hEqR := fun ys G => EqRs_run (ys := ys) (lo := 0) (H := G) (.inl (rwA_Sl (allL L w))) hr2 (.inl (rwA_Sl (allL L w))) hr2 (by omega) (by omega)
  simp only [decide_eq_true (rfl : allL L w = allL L w)] at hEqR
  have hJ := fun ys => Join_run (ys := ys) (lo := 0) hX hr1 (by omega)
  have hK := fun ys G (q : Ext H1 G) => refJoin_run (ys := ys) (lo := 0) (hX.ext q) hr1 (by omega)
  have hSp := fun ys G (q : Ext H1 G) => Spot_run (ys := ys) (lo := 0) (hX.ext q) hr1 (by omega) pr pc
  have hSr := fun ys G (q : Ext H1 G) => refSpot_run (ys := ys) (lo := 0) (hX.ext q) hr1 (by omega) pr pc
  repeat' (first | refine zka ?_ | refine zkb ?_ | (apply RKp.op; ((try simp (disch := (first | omega | exact zX | exact zO | fail)) only [go_sem, Nat.reduceDiv, Nat.reduceMod, Nat.reduceAdd, Nat.reduceSub, Nat.reduceEqDiff, Nat.reduceLeDiff, Nat.reduceLT, Nat.reduceMul, reduceIte, Nat.reducePow, Int.reduceEq]); exact zL); rfl) | (apply RKp.callR; ((first | apply hAl | apply hAr) <;> (exact zD)); rfl; intro tr htr) | (apply RKp.callNE; (apply hJ <;> (exact zD)); (intro x; rfl)) | refine zkc ?_ | apply RKg.tt | apply RKg.ff | refine zkd ?_ | refine zke ?_ | refine zkf ?_ | (refine RKg.split (fun h => ?_) (fun h => ?_) <;> (try rw [h]) <;> (replace h := zB h) <;> (try (exfalso; first | exact h | omega))) | apply RK.nil | apply V.sq | apply V.bl | apply V.sc | apply V.skip | apply V.label | apply V.ret | apply V.exit | apply SeqQ.normal | apply SeqQ.ret | apply SeqQ.exit | apply BlockQ.normal | apply BlockQ.ret | apply BlockQ.here | refine zbt ?_ | apply LoopS.ret | apply LoopS.exit | apply LoopF.ret | apply LoopF.exit | apply V.regK | refine zva ?_ | refine zvb ?_ | refine zgc ?_ | refine zvd ?_ | refine zve ?_ | (refine zvf (fun h => ?_) (fun h => ?_) <;> (replace h := zB h) <;> (try (exfalso; first | exact h | omega))) | (refine zfc Tryz.results3 ?_; (try dsimp only)))
  rintro u H5 tr5 htr5 ⟨ls5, ho5, hl5, hx5, -⟩
  have k0 : H5.get H0.next = some (poBlk pr pc) := by rw [hx5.get _ (by omega)]; exact p0
  have k1 : H5.get (H0.next + 1) = some (spBlk line off past) := by rw [hx5.get _ (by omega)]; exact p1
  repeat' (first | refine zka ?_ | refine zkb ?_ | (apply RKp.op; ((try simp (disch := (first | omega | exact zX | exact zO | fail)) only [go_sem, Nat.reduceDiv, Nat.reduceMod, Nat.reduceAdd, Nat.reduceSub, Nat.reduceEqDiff, Nat.reduceLeDiff, Nat.reduceLT, Nat.reduceMul, reduceIte, Nat.reducePow, Int.reduceEq]); exact zL); rfl) | (apply RKp.callRE; (apply hK <;> (exact zD)); (intro x; rfl)) | refine zkc ?_ | apply RKg.tt | apply RKg.ff | refine zkd ?_ | refine zke ?_ | refine zkf ?_ | (refine RKg.split (fun h => ?_) (fun h => ?_) <;> (try rw [h]) <;> (replace h := zB h) <;> (try (exfalso; first | exact h | omega))) | apply RK.nil | apply V.sq | apply V.bl | apply V.sc | apply V.skip | apply V.label | apply V.ret | apply V.exit | apply SeqQ.normal | apply SeqQ.ret | apply SeqQ.exit | apply BlockQ.normal | apply BlockQ.ret | apply BlockQ.here | refine zbt ?_ | apply LoopS.ret | apply LoopS.exit | apply LoopF.ret | apply LoopF.exit | apply V.regK | refine zva ?_ | refine zvb ?_ | refine zgc ?_ | refine zvd ?_ | refine zve ?_ | (refine zvf (fun h => ?_) (fun h => ?_) <;> (replace h := zB h) <;> (try (exfalso; first | exact h | omega))) | (refine zfc Tryz.results3 ?_; (try dsimp only)))
  rintro v tr6 htr6 ⟨ls6, hv, hl6⟩
  have hEq := fun ys => eq_run (ys := ys) (lo := 0) ho5.slh hl5 (.inl hv) hl6 (by omega) (by omega)
  simp only [decide_eq_true (rfl : joinL ra = joinL ra)] at hEq
  by_cases hpa : past ≤ 1073741824
  · have hPl := fun ys G => Place_run (ys := ys) (lo := 0) (H := G) (.inl hy) hls (by omega) (fun j hj => by have := hln j hj; omega) w line off past (by omega) hw (by omega)
    have hPr := fun ys G => refPlace_run (ys := ys) (lo := 0) (H := G) hy hls hgl (by omega) (fun j hj => by have := hln j hj; omega) w line off past (by omega) hw (by omega)
    repeat' (first | refine zka ?_ | refine zkb ?_ | (apply RKp.op; ((try simp (disch := (first | omega | exact zX | exact zO | fail)) only [k0, k1, go_sem, Nat.reduceDiv, Nat.reduceMod, Nat.reduceAdd, Nat.reduceSub, Nat.reduceEqDiff, Nat.reduceLeDiff, Nat.reduceLT, Nat.reduceMul, reduceIte, Nat.reducePow, Int.reduceEq]); exact zL); rfl) | (apply RKp.callR; ((first | apply hEq | apply hEqR | apply hSp | apply hSr | apply hPl | apply hPr) <;> (exact zD)); rfl; intro tr htr) | refine zkc ?_ | apply RKg.tt | apply RKg.ff | refine zkd ?_ | refine zke ?_ | refine zkf ?_ | (refine RKg.split (fun h => ?_) (fun h => ?_) <;> (try rw [h]) <;> (replace h := zB h) <;> (try (exfalso; first | exact h | omega))) | apply RK.nil | apply V.sq | apply V.bl | apply V.sc | apply V.skip | apply V.label | apply V.ret | apply V.exit | apply SeqQ.normal | apply SeqQ.ret | apply SeqQ.exit | apply BlockQ.normal | apply BlockQ.ret | apply BlockQ.here | refine zbt ?_ | apply LoopS.ret | apply LoopS.exit | apply LoopF.ret | apply LoopF.exit | apply V.regK | refine zva ?_ | refine zvb ?_ | refine zgc ?_ | refine zvd ?_ | refine zve ?_ | (refine zvf (fun h => ?_) (fun h => ?_) <;> (replace h := zB h) <;> (try (exfalso; first | exact h | omega))) | (refine zfc Tryz.results3 ?_; (try dsimp only)))
    all_goals first
      | (exfalso; omega)
      | (exfalso; simp at h; done)
      | (simp; done)
      | trace_state
  · repeat' (first | refine zka ?_ | refine zkb ?_ | (apply RKp.op; ((try simp (disch := (first | omega | exact zX | exact zO | fail)) only [k0, k1, go_sem, Nat.reduceDiv, Nat.reduceMod, Nat.reduceAdd, Nat.reduceSub, Nat.reduceEqDiff, Nat.reduceLeDiff, Nat.reduceLT, Nat.reduceMul, reduceIte, Nat.reducePow, Int.reduceEq]); exact zL); rfl) | (apply RKp.callR; ((first | apply hEq | apply hEqR | apply hSp | apply hSr) <;> (exact zD)); rfl; intro tr htr) | refine zkc ?_ | apply RKg.tt | apply RKg.ff | refine zkd ?_ | refine zke ?_ | refine zkf ?_ | (refine RKg.split (fun h => ?_) (fun h => ?_) <;> (try rw [h]) <;> (replace h := zB h) <;> (try (exfalso; first | exact h | omega))) | apply RK.nil | apply V.sq | apply V.bl | apply V.sc | apply V.skip | apply V.label | apply V.ret | apply V.exit | apply SeqQ.normal | apply SeqQ.ret | apply SeqQ.exit | apply BlockQ.normal | apply BlockQ.ret | apply BlockQ.here | refine zbt ?_ | apply LoopS.ret | apply LoopS.exit | apply LoopF.ret | apply LoopF.exit | apply V.regK | refine zva ?_ | refine zvb ?_ | refine zgc ?_ | refine zvd ?_ | refine zve ?_ | (refine zvf (fun h => ?_) (fun h => ?_) <;> (replace h := zB h) <;> (try (exfalso; first | exact h | omega))) | (refine zfc Tryz.results3 ?_; (try dsimp only)))
    all_goals first
      | (exfalso; omega)
      | (exfalso; simp at h; done)
      | (rw [decide_eq_true (show 1073741824 < past by omega)]; done)
      | trace_state
end
theorem wd_spot {d : Nat} {u : List AV} (h : Wd Tryz.prog (d + 2) 27 u) : ∃ a b c : Int, u = [.v (.int .i64 a), .v (.int .i64 b), .v (.int .i64 c)] := by
  unfold Wd at h
  rw [Tryz.underlying27] at h
  obtain ⟨parts, rfl, hl, hp⟩ := h
  match parts, hl with
  | [p0, p1, p2], _ =>
    have h0 := hp 0 _ p0 rfl rfl
    have h1 := hp 1 _ p1 rfl rfl
    have h2 := hp 2 _ p2 rfl rfl
    simp only [Wd, Tryz.underlying3] at h0 h1 h2
    obtain ⟨r, rfl, _⟩ := h0
    obtain ⟨c, rfl, _⟩ := h1
    obtain ⟨e, rfl, _⟩ := h2
    exact ⟨r, c, e, rfl⟩
theorem LineAll_run (v : List AV) (hv : Wd Tryz.prog 6 22 v) (u : List AV) (hu : Wd Tryz.prog 6 23 u) (w : Int) (hw : (Lit.int .i64 w).wf = true) (p : List AV) (hp : Wd Tryz.prog 6 25 p) (s : List AV) (hs : Wd Tryz.prog 6 27 s) : WC EF [] 0 3 [v.getD 0 .dead, u.getD 0 .dead, .v (.int .i64 w), .agg p, .agg s] .empty fun x _ => x = .v (.bool true) := by
  obtain ⟨A, es, a, rfl, hA, hlen, hE⟩ := wd_rowsS (d := 1) hv
  obtain ⟨L, fs, ls, rfl, hL, hlen2, hF⟩ := wd_linesS (d := 2) hu
  obtain ⟨pr, pc, rfl⟩ := wd_pos (d := 4) hp
  obtain ⟨x, y, z, rfl⟩ := wd_spot (d := 4) hs
  exact LineAll_law (fun ys lo H => begun_F) hA hlen hE hL hlen2 hF w (i64_wf hw) pr pc x y z
end Go.Am
