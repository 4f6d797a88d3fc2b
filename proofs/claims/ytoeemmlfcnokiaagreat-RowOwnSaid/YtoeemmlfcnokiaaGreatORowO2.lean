
/- RowOwn. -/
import Derived.Test.YtoeemmlfcnokiaaGreatORowOs
set_option linter.all false
set_option linter.deprecated false
namespace Go.Am
open Go.Proofs
set_option maxRecDepth 8000
set_option maxHeartbeats 4000000
section
variable {A B : AV} {l m : List Ce} {wr : Bool}
theorem tmod_in {a : Int} {n : Nat} (h : 0 ≤ a) (hn : 0 < n) : 0 ≤ a.tmod n ∧ a.tmod n < n := by
  rw [Int.tmod_eq_emod_of_nonneg h]; exact ⟨Int.emod_nonneg _ (by omega), Int.emod_lt_of_pos _ (by omega)⟩
theorem nf_set {A B : AV} {wr : Bool} {c : Value} {es fs : List (List AV)} (hA : Sl 3 A es) (hB : Sl 3 B fs) : [rowA A wr, .v c, B].all nf = true := by
  rcases hA with rfl | ⟨_, rfl | rfl⟩ <;> rcases hB with rfl | ⟨_, rfl | rfl⟩ <;> rfl
theorem nf_era {A : AV} {wr : Bool} {c d : Value} {es : List (List AV)} (hA : Sl 3 A es) : [rowA A wr, .v c, .v d].all nf = true := by
  rcases hA with rfl | ⟨_, rfl | rfl⟩ <;> rfl
theorem RKp.gen {E : Env} {ys : List (Nat × LRec)} {lo : Nat} {ops rest : List Oper} {o : Oper} {acc : List Tr} {K : St → List Tr → Prop} {tm : Slots} {H : AHeap} {p : Plan} (P : AHeap → Prop) (h1 : P H) (h : ∀ Hb, P Hb → RKp E ys lo ops o rest tm Hb acc K p) : RKp E ys lo ops o rest tm H acc K p := h H h1
theorem st_att (lo : Nat) {H : AHeap} {n e i : Nat} {l : List Ce} (hg : H.get n = some (cblk e l)) (hlo : lo ≤ n) (a : Int) (hi : i < l.length) : primL lo H (storeA EO 3 (.op n e i 2) (.v (.int .i64 a))) = some (.tup [], H.set n (cblk e (l.set i ⟨(l.getD i zeroC).r, (l.getD i zeroC).w, a⟩)), ⟨bitsOf [n], 2 ^ n, 0⟩) := by
  simp only [storeA_op]
  rw [show cellsOf (.v (.int .i64 a)) = some [.v (.int .i64 a)] from rfl]
  simp only [go_sem, hg, Option.bind_some]
  have e : cesA (l.set i ⟨(l.getD i zeroC).r, (l.getD i zeroC).w, a⟩) = (cesA l).set i (ceA ⟨(l.getD i zeroC).r, (l.getD i zeroC).w, a⟩) := List.map_set
  rw [if_pos (by rw [ces_len]; exact ⟨hi, hlo⟩), nth_cesA l i hi, cblk, e]; rfl

/-- The law's heap, behind the calls. -/
structure OwH (H : AHeap) (n : Nat) (A : AV) (wr wr' : Bool) (r a b : List Ce) : Prop where
  nx : H.next = n + 1 + 1 + 1 + 1 + 1 + 1 + 1
  g0 : H.get n = some (rblk A wr)
  g1 : H.get (n + 1) = some (cblk 0 r)
  g2 : H.get (n + 1 + 1) = some (rblk (.os (n + 1) 0 0 r.length) wr)
  g3 : H.get (n + 1 + 1 + 1) = some (cblk 0 a)
  g4 : H.get (n + 1 + 1 + 1 + 1) = some (rblk (.os (n + 1 + 1 + 1) 0 0 r.length) wr)
  g5 : H.get (n + 1 + 1 + 1 + 1 + 1) = some (cblk 0 b)
  g6 : H.get (n + 1 + 1 + 1 + 1 + 1 + 1) = some (rblk (.os (n + 1 + 1 + 1 + 1 + 1) 0 0 r.length) wr')
  la : a.length = r.length
  lb : b.length = r.length
theorem OwH.setA {H : AHeap} {n : Nat} {A : AV} {wr wr' : Bool} {r a b : List Ce} (h : OwH H n A wr wr' r a b) (c : List Ce) (hc : c.length = r.length) : OwH (H.set (n + 1 + 1 + 1) (cblk 0 c)) n A wr wr' r c b := by
  obtain ⟨h0, h1, h2, h3, h4, h5, h6, h7, h8, h9⟩ := h
  refine ⟨by rw [next_set]; exact h0, ?_, ?_, ?_, ?_, ?_, ?_, ?_, hc, h9⟩ <;> rw [get_set]
  · rw [if_neg (by omega)]; exact h1
  · rw [if_neg (by omega)]; exact h2
  · rw [if_neg (by omega)]; exact h3
  · rw [if_pos rfl]
  · rw [if_neg (by omega)]; exact h5
  · rw [if_neg (by omega)]; exact h6
  · rw [if_neg (by omega)]; exact h7
theorem OwH.setB {H : AHeap} {n : Nat} {A : AV} {wr wr' : Bool} {r a b : List Ce} (h : OwH H n A wr wr' r a b) (c : List Ce) (hc : c.length = r.length) : OwH (H.set (n + 1 + 1 + 1 + 1 + 1) (cblk 0 c)) n A wr wr' r a c := by
  obtain ⟨h0, h1, h2, h3, h4, h5, h6, h7, h8, h9⟩ := h
  refine ⟨by rw [next_set]; exact h0, ?_, ?_, ?_, ?_, ?_, ?_, ?_, h8, hc⟩ <;> rw [get_set]
  · rw [if_neg (by omega)]; exact h1
  · rw [if_neg (by omega)]; exact h2
  · rw [if_neg (by omega)]; exact h3
  · rw [if_neg (by omega)]; exact h4
  · rw [if_neg (by omega)]; exact h5
  · rw [if_pos rfl]
  · rw [if_neg (by omega)]; exact h7
structure OwN (H : AHeap) (n : Nat) (A : AV) (wr wr' : Bool) (r b : List Ce) : Prop where
  nx : H.next = n + 1 + 1 + 1 + 1 + 1 + 1
  g0 : H.get n = some (rblk A wr)
  g1 : H.get (n + 1) = some (cblk 0 r)
  g2 : H.get (n + 1 + 1) = some (rblk (.os (n + 1) 0 0 r.length) wr)
  g3 : H.get (n + 1 + 1 + 1) = some (rblk A wr)
  g4 : H.get (n + 1 + 1 + 1 + 1) = some (cblk 0 b)
  g5 : H.get (n + 1 + 1 + 1 + 1 + 1) = some (rblk (.os (n + 1 + 1 + 1 + 1) 0 0 r.length) wr')
  lb : b.length = r.length
theorem OwN.setB {H : AHeap} {n : Nat} {A : AV} {wr wr' : Bool} {r b : List Ce} (h : OwN H n A wr wr' r b) (c : List Ce) (hc : c.length = r.length) : OwN (H.set (n + 1 + 1 + 1 + 1) (cblk 0 c)) n A wr wr' r c := by
  obtain ⟨h0, h1, h2, h3, h4, h5, h6, h7⟩ := h
  refine ⟨by rw [next_set]; exact h0, ?_, ?_, ?_, ?_, ?_, ?_, hc⟩ <;> rw [get_set]
  · rw [if_neg (by omega)]; exact h1
  · rw [if_neg (by omega)]; exact h2
  · rw [if_neg (by omega)]; exact h3
  · rw [if_neg (by omega)]; exact h4
  · rw [if_pos rfl]
  · rw [if_neg (by omega)]; exact h6
theorem slh_was {H : AHeap} {n : Nat} {r : List Ce} (hn : n < H.next) (hg : H.get n = some (cblk 0 r)) : SlH H 3 (.os n 0 0 r.length) (cesA r) := by
  refine .inr ⟨n, 0, 0, _, by rw [ces_len], hn, hg, rfl, rfl, rfl, by simp, ?_⟩
  rw [List.drop_zero]
  exact List.take_of_length_le (Nat.le_refl _)
theorem sign_ofC (c : Int) (h : 0 < (ofC c 1).length) : signI (ofC c 1) := by
  unfold ofC at h ⊢
  have := widthI_range c
  split
  · rename_i hc; rw [if_pos hc] at h; exact absurd h (Nat.lt_irrefl 0)
  · rename_i hc
    split
    · rename_i h2
      exact .inr ⟨rfl, rfl, ⟨(by decide : (0 : Int) ≤ 1 ∧ (1 : Int) ≤ 255), .inr (.inr ⟨.inr rfl, h2.symm⟩)⟩, rfl⟩
    · rename_i h2
      exact .inl ⟨rfl, rfl, ⟨(by decide : (0 : Int) ≤ 1 ∧ (1 : Int) ≤ 255), .inr (.inr ⟨.inl rfl, by show (1 : Int) = widthI c; omega⟩)⟩⟩
theorem cb_len (lo : Nat) {H : AHeap} {n k : Nat} {l : List Ce} (hg : H.get n = some (cblk 0 l)) (hk : l.length = k) : primL lo H (builtinA EO .len #[45] 3 [.os n 0 0 k]) = some (.v (.int .i64 k), H, ⟨bitsOf [n], 0, 0⟩) := by
  simp only [go_sem, hg, Option.bind_some]
  simp [hk]
theorem cb_ix (lo : Nat) {H : AHeap} {n k : Nat} {l : List Ce} (hg : H.get n = some (cblk 0 l)) (hk : l.length = k) (i : Nat) (hi : i < k) : primL lo H (indexAddrA EO 45 (.os n 0 0 k) (.v (.int .i64 (i : Int)))) = some (.op n 0 i 0, H, ⟨bitsOf [n], 0, 0⟩) := by
  simp only [go_sem, hg, Option.bind_some]
  simp [hk, hi]
theorem RowOwn_law (hA : Sl 3 A (cesA l)) (hl : l.length < 2 ^ 63) (h32 : R32 l) (col c : Int) (hc : -9223372036854775808 ≤ col ∧ col ≤ 9223372036854775807) (hcc : -2147483648 ≤ c ∧ c ≤ 2147483647) :
    WC EO [] 0 6 [rowA A wr, .v (.int .i64 col), .v (.int .i32 c)] .empty fun x _ => x = .v (.bool true) := by
  have hl4 := fun H => law4Row_run (ys := []) (lo := 0) (H := H) (wr := wr) (.inl hA) hl
  generalize AHeap.empty = H0
  refine zvin Tryz.func6 Tryz.ntmps6 ?_
  repeat' (first
   | refine zka ?_
   | refine zkb ?_
   | (apply RKp.op; ((try simp (disch := (first | ((try simp only [List.length_set, List.map_set, ces_len, setN_len, fixTo_len]); omega) | exact zX | exact zX | exact zO | fail)) only [go_sem, Nat.reduceDiv, Nat.reduceMod, Nat.reduceAdd, Nat.reduceSub, Nat.reduceEqDiff, Nat.reduceLeDiff, Nat.reduceLT, Nat.reduceMul, reduceIte, Nat.reducePow, Int.reduceEq]); exact zL); rfl)
   | (apply RKp.call; (apply begun_R <;> (exact zD)); rfl)
   | (apply RKp.callRE; (apply hl4 <;> (exact zD)); (intro x; rfl))
   | refine zkc ?_
   | apply RKg.tt
   | apply RKg.ff
   | refine zkd ?_
   | refine zke ?_
   | refine zkf ?_
   | (refine RKg.split (fun h => ?_) (fun h => ?_) <;> (try rw [h]) <;> (replace h := zB h) <;> (try (exfalso; first | exact h | omega)))
   | apply RK.nil
   | apply V.sq
   | apply V.bl
   | apply V.sc
   | apply V.skip
   | apply V.label
   | apply V.ret
   | apply V.exit
   | apply SeqQ.normal
   | apply SeqQ.ret
   | apply SeqQ.exit
   | apply BlockQ.normal
   | apply BlockQ.ret
   | apply BlockQ.here
   | refine zbt ?_
   | apply LoopS.ret
   | apply LoopS.exit
   | apply LoopF.ret
   | apply LoopF.exit
   | apply V.regK
    | refine zva ?_
   | refine zvb ?_
   | refine zgc ?_
   | refine zvd ?_
   | refine zve ?_
   | (refine zvf (fun h => ?_) (fun h => ?_) <;> (replace h := zB h) <;> (try (exfalso; first | exact h | omega)))
    | (refine zfc Tryz.results6 ?_; (try dsimp only)))
  rintro x tr htr ⟨A1, rfl, hA1⟩
  have hq : (l.take 310).length < 2 ^ 40 := by rw [List.length_take]; omega
  have h32' := R32_take h32 310
  generalize l.take 310 = r at *
  have hz : rdTr A1 = ⟨0, 0, 0⟩ := by rcases hA1 with rfl | ⟨_, rfl | rfl⟩ <;> rfl
  have lnO := fun G => len_cellX (l := r) 0 (H0 := G) (.inl hA1) G (Ext.refl G)
  have hCp := fun H => Copy_E (ys := []) (lo := 0) (H := H) (wr := wr) (.inl hA1) hq
  repeat' (first
   | refine zka ?_
   | refine zkb ?_
   | (apply RKp.op; ((try simp (disch := (first | ((try simp only [List.length_set, List.map_set, ces_len, setN_len, fixTo_len]); omega) | exact zX | exact zX | exact zO | fail)) only [go_sem, Nat.reduceDiv, Nat.reduceMod, Nat.reduceAdd, Nat.reduceSub, Nat.reduceEqDiff, Nat.reduceLeDiff, Nat.reduceLT, Nat.reduceMul, reduceIte, Nat.reducePow, Int.reduceEq]); exact zL); rfl)
   | (apply RKp.callE; (apply hCp <;> (exact zD)); (intro x; rfl))
   | refine zkc ?_
   | apply RKg.tt
   | apply RKg.ff
   | refine zkd ?_
   | refine zke ?_
   | refine zkf ?_
   | (refine RKg.split (fun h => ?_) (fun h => ?_) <;> (try rw [h]) <;> (replace h := zB h) <;> (try (exfalso; first | exact h | omega)))
   | apply RK.nil
   | apply V.sq
   | apply V.bl
   | apply V.sc
   | apply V.skip
   | apply V.label
   | apply V.ret
   | apply V.exit
   | apply SeqQ.normal
   | apply SeqQ.ret
   | apply SeqQ.exit
   | apply BlockQ.normal
   | apply BlockQ.ret
   | apply BlockQ.here
   | refine zbt ?_
   | apply LoopS.ret
   | apply LoopS.exit
   | apply LoopF.ret
   | apply LoopF.exit
   | apply V.regK
    | refine zva ?_
   | refine zvb ?_
   | refine zgc ?_
   | refine zvd ?_
   | refine zve ?_
   | (refine zvf (fun h => ?_) (fun h => ?_) <;> (replace h := zB h) <;> (try (exfalso; first | exact h | omega)))
    | (refine zfc Tryz.results6 ?_; (try dsimp only)))
  rintro x H2 tr2 (⟨h0, rfl, rfl⟩ | ⟨h0, rfl, rfl⟩)
  · subst h0
    repeat' (first
     | refine zka ?_
     | refine zkb ?_
     | (apply RKp.op; ((try simp (disch := (first | ((try simp only [List.length_set, List.map_set, ces_len, setN_len, fixTo_len]); omega) | exact zX | exact zX | exact zO | fail)) only [lnO, hz, List.length_nil, go_sem, Nat.reduceDiv, Nat.reduceMod, Nat.reduceAdd, Nat.reduceSub, Nat.reduceEqDiff, Nat.reduceLeDiff, Nat.reduceLT, Nat.reduceMul, reduceIte, Nat.reducePow, Int.reduceEq]); exact zL); rfl)
     | refine zkc ?_
     | apply RKg.tt
     | apply RKg.ff
     | refine zkd ?_
     | refine zke ?_
     | refine zkf ?_
     | (refine RKg.split (fun h => ?_) (fun h => ?_) <;> (try rw [h]) <;> (replace h := zB h) <;> (try (exfalso; first | exact h | omega)))
     | apply RK.nil
     | apply V.sq
     | apply V.bl
     | apply V.sc
     | apply V.skip
     | apply V.label
     | apply V.ret
     | apply V.exit
     | apply SeqQ.normal
     | apply SeqQ.ret
     | apply SeqQ.exit
     | apply BlockQ.normal
     | apply BlockQ.ret
     | apply BlockQ.here
     | refine zbt ?_
     | apply LoopS.ret
     | apply LoopS.exit
     | apply LoopF.ret
     | apply LoopF.exit
     | apply V.regK
      | refine zva ?_
     | refine zvb ?_
     | refine zgc ?_
     | refine zvd ?_
     | refine zve ?_
     | (refine zvf (fun h => ?_) (fun h => ?_) <;> (replace h := zB h) <;> (try (exfalso; first | exact h | omega)))
      | (refine zfc Tryz.results6 ?_; (try dsimp only)))
    all_goals first
      | rfl
      | trace_state
  · have hp : 0 < r.length := List.length_pos_iff.2 h0
    by_cases hneg : col < 0
    · repeat' (first
       | refine zka ?_
       | refine zkb ?_
       | (apply RKp.op; ((try simp (disch := (first | ((try simp only [List.length_set, List.map_set, ces_len, setN_len, fixTo_len]); omega) | exact zX | exact zX | exact zO | fail)) only [lnO, hz, go_sem, Nat.reduceDiv, Nat.reduceMod, Nat.reduceAdd, Nat.reduceSub, Nat.reduceEqDiff, Nat.reduceLeDiff, Nat.reduceLT, Nat.reduceMul, reduceIte, Nat.reducePow, Int.reduceEq]); exact zL); rfl)
       | refine zkc ?_
       | apply RKg.tt
       | apply RKg.ff
       | refine zkd ?_
       | refine zke ?_
       | refine zkf ?_
       | (refine RKg.split (fun h => ?_) (fun h => ?_) <;> (try rw [h]) <;> (replace h := zB h) <;> (try (exfalso; first | exact h | omega)))
       | apply RK.nil
       | apply V.sq
       | apply V.bl
       | apply V.sc
       | apply V.skip
       | apply V.label
       | apply V.ret
       | apply V.exit
       | apply SeqQ.normal
       | apply SeqQ.ret
       | apply SeqQ.exit
       | apply BlockQ.normal
       | apply BlockQ.ret
       | apply BlockQ.here
       | refine zbt ?_
       | apply LoopS.ret
       | apply LoopS.exit
       | apply LoopF.ret
       | apply LoopF.exit
       | apply V.regK
        | refine zva ?_
       | refine zvb ?_
       | refine zgc ?_
       | refine zvd ?_
       | refine zve ?_
       | (refine zvf (fun h => ?_) (fun h => ?_) <;> (replace h := zB h) <;> (try (exfalso; first | exact h | omega)))
        | (refine zfc Tryz.results6 ?_; (try dsimp only)))
      all_goals first
        | rfl
        | trace_state
    · obtain ⟨q0, q1⟩ := tmod_in (a := col) (by omega) hp
      have hmn : (ofC c 1).length < 2 ^ 40 := ofC_len c 1
      have hB1 := ofA_Sl c 1
      have hCe := fun ys H => Cells_run (ys := ys) (lo := 0) (H := H) c 1 hcc
      have lnB := fun G => len_cellX (l := ofC c 1) 0 (H0 := G) (.inl hB1) G (Ext.refl G)
      have hsg : 0 < (ofC c 1).length → signI (ofC c 1) := sign_ofC c
      have hRo := fun H => Row_R (ys := []) (lo := 0) (H := H) (wr := wr) (.inl hA1) hq h32'
      generalize hqe : col.tmod (r.length : Int) = q at *
      generalize ofC c 1 = m at *
      by_cases hG : rowG r
      · have d1 : decide (rowG r) = true := decide_eq_true hG
        simp only [d1] at hRo
        have hEr := fun ys H => Erase_own (ys := ys) (lo := 0) (H := H) (wr := wr) hA1 hq q r.length (by omega) (by omega) ⟨hG, q0, by omega, by omega⟩ (by omega) (nf_era hA1)
        by_cases hok : setOk r q m
        · have hSe := fun ys H => Set_own (ys := ys) (lo := 0) (H := H) (wr := wr) hA1 (.inl hB1) hq hmn q (by omega) hok (nf_set hA1 hB1)
          repeat' (first
           | refine zka ?_
           | refine zkb ?_
           | (apply RKp.op; ((try simp (disch := (first | ((try simp only [List.length_set, List.map_set, ces_len, setN_len, fixTo_len]); omega) | exact zX | exact zX | exact zO | fail)) only [lnO, lnB, hz, hqe, go_sem, Nat.reduceDiv, Nat.reduceMod, Nat.reduceAdd, Nat.reduceSub, Nat.reduceEqDiff, Nat.reduceLeDiff, Nat.reduceLT, Nat.reduceMul, reduceIte, Nat.reducePow, Int.reduceEq]); exact zL); rfl)
           | (apply RKp.call; ((first | apply hCe | apply hSe | apply hEr) <;> (exact zD)); rfl)
           | refine zkc ?_
           | apply RKg.tt
           | apply RKg.ff
           | refine zkd ?_
           | refine zke ?_
           | refine zkf ?_
           | (refine RKg.split (fun h => ?_) (fun h => ?_) <;> (try rw [h]) <;> (replace h := zB h) <;> (try (exfalso; first | exact h | omega)))
           | apply RK.nil
           | apply V.sq
           | apply V.bl
           | apply V.sc
           | apply V.skip
           | apply V.label
           | apply V.ret
           | apply V.exit
           | apply SeqQ.normal
           | apply SeqQ.ret
           | apply SeqQ.exit
           | apply BlockQ.normal
           | apply BlockQ.ret
           | apply BlockQ.here
           | refine zbt ?_
           | apply LoopS.ret
           | apply LoopS.exit
           | apply LoopF.ret
           | apply LoopF.exit
           | apply V.regK
            | refine zva ?_
           | refine zvb ?_
           | refine zgc ?_
           | refine zvd ?_
           | refine zve ?_
           | (refine zvf (fun h => ?_) (fun h => ?_) <;> (replace h := zB h) <;> (try (exfalso; first | exact h | omega)))
            | (refine zfc Tryz.results6 ?_; (try dsimp only)))
          all_goals
            refine RKp.gen (fun Hb => ∃ a b, OwH Hb H0.next A1 wr (eraW r wr q r.length) r a b) ?_ ?_
            · exact ⟨putL r q.toNat m, putL r q.toNat (blanks (r.length - q.toNat)), by (first | omega | (simp only [next_push, next_set, next_empty]; done) | (simp only [next_push, next_set, next_empty]; omega)), by simp (disch := (first | omega | exact zX | fail)) only [get_set, get_push, next_push, next_set, if_pos', if_neg', if_true, if_false, reduceIte], by simp (disch := (first | omega | exact zX | fail)) only [get_set, get_push, next_push, next_set, if_pos', if_neg', if_true, if_false, reduceIte], by simp (disch := (first | omega | exact zX | fail)) only [get_set, get_push, next_push, next_set, if_pos', if_neg', if_true, if_false, reduceIte], by simp (disch := (first | omega | exact zX | fail)) only [get_set, get_push, next_push, next_set, if_pos', if_neg', if_true, if_false, reduceIte], by simp (disch := (first | omega | exact zX | fail)) only [get_set, get_push, next_push, next_set, if_pos', if_neg', if_true, if_false, reduceIte], by simp (disch := (first | omega | exact zX | fail)) only [get_set, get_push, next_push, next_set, if_pos', if_neg', if_true, if_false, reduceIte], by simp (disch := (first | omega | exact zX | fail)) only [get_set, get_push, next_push, next_set, if_pos', if_neg', if_true, if_false, reduceIte], putL_len _ _ _, putL_len _ _ _⟩
            rintro Hb ⟨a, b, hO⟩
            have k0 := hO.g0; have k2 := hO.g2; have k4 := hO.g4; have k6 := hO.g6
            have ln3 := cb_len 0 hO.g3 hO.la
            have ln5 := cb_len 0 hO.g5 hO.lb
            repeat' (first
             | refine zka ?_
             | refine zkb ?_
             | (apply RKp.op; ((try simp (disch := (first | ((try simp only [List.length_set, List.map_set, ces_len, setN_len, fixTo_len]); omega) | exact zX | exact zX | exact zO | fail)) only [d1, k0, k4, ln3, go_sem, Nat.reduceDiv, Nat.reduceMod, Nat.reduceAdd, Nat.reduceSub, Nat.reduceEqDiff, Nat.reduceLeDiff, Nat.reduceLT, Nat.reduceMul, reduceIte, Nat.reducePow, Int.reduceEq]); exact zL); rfl)
             | (apply RKp.callR; (apply hRo <;> (exact zD)); rfl; intro tr htr)
             | refine zkc ?_
             | apply RKg.tt
             | apply RKg.ff
             | refine zkd ?_
             | refine zke ?_
             | refine zkf ?_
             | (refine RKg.split (fun h => ?_) (fun h => ?_) <;> (try rw [h]) <;> (replace h := zB h) <;> (try (exfalso; first | exact h | omega)))
             | apply RK.nil
             | apply V.sq
             | apply V.bl
             | apply V.sc
             | apply V.skip
             | apply V.label
             | apply V.ret
             | apply V.exit
             | apply SeqQ.normal
             | apply SeqQ.ret
             | apply SeqQ.exit
             | apply BlockQ.normal
             | apply BlockQ.ret
             | apply BlockQ.here
             | refine zbt ?_
             | apply LoopS.ret
             | apply LoopS.exit
             | apply LoopF.ret
             | apply LoopF.exit
             | apply V.regK
              | refine zva ?_
             | refine zvb ?_
             | refine zgc ?_
             | refine zvd ?_
             | refine zve ?_
             | (refine zvf (fun h => ?_) (fun h => ?_) <;> (replace h := zB h) <;> (try (exfalso; first | exact h | omega)))
              | (refine zfc Tryz.results6 ?_; (try dsimp only)))
            apply V.lpS [60, 13, 61, 62, 63, 64, 65, 66, 67, 68, 69, 70, 71, 72, 73, 74, 75, 76, 77, 78, 79, 80, 81, 82, 83, 84, 85, 86, 87] (fun k xs H2 => ∃ (i : Nat) (g : _) (a b : List Ce), xs = .v (.int .i64 i) :: g ∧ k = r.length - i ∧ i ≤ r.length ∧ OwH H2 H0.next A1 wr (eraW r wr q r.length) r a b) r.length
            focus (intro xs; simp only [putMany, set2, Nat.reduceAdd, Nat.reduceDiv, Nat.reduceMod, nth_zero, nth_succ, List.set_cons_zero, List.set_cons_succ]; rfl)
            focus (first | rfl | simp only [readMany, nth_zero, nth_succ, Nat.reduceDiv, Nat.reduceMod])
            · exact ⟨0, _, _, _, rfl, rfl, Nat.zero_le _, hO⟩
            · rintro k xs H2 ⟨i, g, a, b, rfl, rfl, hi, hO2⟩
              have m0 := hO2.g0; have m3 := hO2.g3; have m4 := hO2.g4; have m6 := hO2.g6
              have ix3 := fun h => cb_ix 0 hO2.g3 hO2.la i h
              have st3 := fun h => st_att 0 hO2.g3 (Nat.zero_le _) 50 (i := i) h
              have hla := hO2.la
              have ln5'' := cb_len 0 hO2.g5 hO2.lb
              repeat' (first
               | refine zka ?_
               | refine zkb ?_
               | (apply RKp.op; ((try simp (disch := (first | ((try simp only [List.length_set, List.map_set, ces_len, setN_len, fixTo_len]); omega) | exact zX | exact zX | exact zO | fail)) only [m0, m4, lnO, lnB, hz, hqe, ix3, st3, m3, m6, ln5'', go_sem, Nat.reduceDiv, Nat.reduceMod, Nat.reduceAdd, Nat.reduceSub, Nat.reduceEqDiff, Nat.reduceLeDiff, Nat.reduceLT, Nat.reduceMul, reduceIte, Nat.reducePow, Int.reduceEq]); exact zL); rfl)
               | (apply RKp.call; (apply hCe <;> (exact zD)); rfl)
               | refine zkc ?_
               | apply RKg.tt
               | apply RKg.ff
               | refine zkd ?_
               | refine zke ?_
               | refine zkf ?_
               | (refine RKg.split (fun h => ?_) (fun h => ?_) <;> (try rw [h]) <;> (replace h := zB h) <;> (try (exfalso; first | exact h | omega)))
               | apply RK.nil
               | apply V.sq
               | apply V.bl
               | apply V.sc
               | apply V.skip
               | apply V.label
               | apply V.ret
               | apply V.exit
               | apply SeqQ.normal
               | apply SeqQ.ret
               | apply SeqQ.exit
               | apply BlockQ.normal
               | apply BlockQ.ret
               | apply BlockQ.here
               | refine zbt ?_
               | apply LoopS.ret
               | apply LoopS.exit
               | apply LoopF.ret
               | apply LoopF.exit
               | apply V.regK
                | refine zva ?_
               | refine zvb ?_
               | refine zgc ?_
               | refine zvd ?_
               | refine zve ?_
               | (refine zvf (fun h => ?_) (fun h => ?_) <;> (replace h := zB h) <;> (try (exfalso; first | exact h | omega)))
                | (refine zfc Tryz.results6 ?_; (try dsimp only)))
              all_goals first
                | exact LoopS.again (r.length - (i + 1)) (by rfl) (by omega) ⟨i + 1, _, _, _, rfl, rfl, by omega, hO2.setA _ (by simp [hla])⟩
                | exact LoopS.again (r.length - (i + 1)) (by rfl) (by omega) ⟨i + 1, _, _, _, rfl, rfl, by omega, hO2⟩
                | skip
              have k6' := hO2.g6; have k0' := hO2.g0; have k2' := hO2.g2; have k4' := hO2.g4
              have ln5' := cb_len 0 hO2.g5 hO2.lb
              repeat' (first
               | refine zka ?_
               | refine zkb ?_
               | (apply RKp.op; ((try simp (disch := (first | ((try simp only [List.length_set, List.map_set, ces_len, setN_len, fixTo_len]); omega) | exact zX | exact zX | exact zO | fail)) only [k6', ln5', go_sem, Nat.reduceDiv, Nat.reduceMod, Nat.reduceAdd, Nat.reduceSub, Nat.reduceEqDiff, Nat.reduceLeDiff, Nat.reduceLT, Nat.reduceMul, reduceIte, Nat.reducePow, Int.reduceEq]); exact zL); rfl)
               | refine zkc ?_
               | apply RKg.tt
               | apply RKg.ff
               | refine zkd ?_
               | refine zke ?_
               | refine zkf ?_
               | (refine RKg.split (fun h => ?_) (fun h => ?_) <;> (try rw [h]) <;> (replace h := zB h) <;> (try (exfalso; first | exact h | omega)))
               | apply RK.nil
               | apply V.sq
               | apply V.bl
               | apply V.sc
               | apply V.skip
               | apply V.label
               | apply V.ret
               | apply V.exit
               | apply SeqQ.normal
               | apply SeqQ.ret
               | apply SeqQ.exit
               | apply BlockQ.normal
               | apply BlockQ.ret
               | apply BlockQ.here
               | refine zbt ?_
               | apply LoopS.ret
               | apply LoopS.exit
               | apply LoopF.ret
               | apply LoopF.exit
               | apply V.regK
                | refine zva ?_
               | refine zvb ?_
               | refine zgc ?_
               | refine zvd ?_
               | refine zve ?_
               | (refine zvf (fun h => ?_) (fun h => ?_) <;> (replace h := zB h) <;> (try (exfalso; first | exact h | omega)))
                | (refine zfc Tryz.results6 ?_; (try dsimp only)))
              apply V.lpS [91, 14, 92, 93, 94, 95, 96, 97, 98, 99] (fun k xs H2 => ∃ (i : Nat) (g : _) (a b : List Ce), xs = .v (.int .i64 i) :: g ∧ k = r.length - i ∧ i ≤ r.length ∧ OwH H2 H0.next A1 wr (eraW r wr q r.length) r a b) r.length
              focus (intro xs; simp only [putMany, set2, Nat.reduceAdd, Nat.reduceDiv, Nat.reduceMod, nth_zero, nth_succ, List.set_cons_zero, List.set_cons_succ]; rfl)
              focus (first | rfl | simp only [readMany, nth_zero, nth_succ, Nat.reduceDiv, Nat.reduceMod])
              · exact ⟨0, _, _, _, rfl, rfl, Nat.zero_le _, hO2⟩
              · rintro k xs H3 ⟨i, g, a, b, rfl, rfl, hi, hO3⟩
                have k0'' := hO3.g0; have k2'' := hO3.g2; have k5'' := hO3.g5; have k6'' := hO3.g6
                have ix5 := fun h => cb_ix 0 hO3.g5 hO3.lb i h
                have st5 := fun h => st_att 0 hO3.g5 (Nat.zero_le _) 50 (i := i) h
                have hlb := hO3.lb
                have hEq := fun ys lo => EqRow_run (ys := ys) (lo := lo) (H := H3) (wr := wr) (wr' := wr) (.inl hA1) (slh_was (by rw [hO3.nx]; omega) hO3.g1) hq hq
                repeat' (first
                 | refine zka ?_
                 | refine zkb ?_
                 | (apply RKp.op; ((try simp (disch := (first | ((try simp only [List.length_set, List.map_set, ces_len, setN_len, fixTo_len]); omega) | exact zX | exact zX | exact zO | fail)) only [k0'', k2'', k5'', k6'', ix5, st5, go_sem, Nat.reduceDiv, Nat.reduceMod, Nat.reduceAdd, Nat.reduceSub, Nat.reduceEqDiff, Nat.reduceLeDiff, Nat.reduceLT, Nat.reduceMul, reduceIte, Nat.reducePow, Int.reduceEq]); exact zL); rfl)
                 | (apply RKp.callR; (apply hEq <;> (exact zD)); rfl; intro tr htr)
                 | refine zkc ?_
                 | apply RKg.tt
                 | apply RKg.ff
                 | refine zkd ?_
                 | refine zke ?_
                 | refine zkf ?_
                 | (refine RKg.split (fun h => ?_) (fun h => ?_) <;> (try rw [h]) <;> (replace h := zB h) <;> (try (exfalso; first | exact h | omega)))
                 | apply RK.nil
                 | apply V.sq
                 | apply V.bl
                 | apply V.sc
                 | apply V.skip
                 | apply V.label
                 | apply V.ret
                 | apply V.exit
                 | apply SeqQ.normal
                 | apply SeqQ.ret
                 | apply SeqQ.exit
                 | apply BlockQ.normal
                 | apply BlockQ.ret
                 | apply BlockQ.here
                 | refine zbt ?_
                 | apply LoopS.ret
                 | apply LoopS.exit
                 | apply LoopF.ret
                 | apply LoopF.exit
                 | apply V.regK
                  | refine zva ?_
                 | refine zvb ?_
                 | refine zgc ?_
                 | refine zvd ?_
                 | refine zve ?_
                 | (refine zvf (fun h => ?_) (fun h => ?_) <;> (replace h := zB h) <;> (try (exfalso; first | exact h | omega)))
                  | (refine zfc Tryz.results6 ?_; (try dsimp only)))
                all_goals first
                  | exact LoopS.again (r.length - (i + 1)) (by rfl) (by omega) ⟨i + 1, _, _, _, rfl, rfl, by omega, hO3.setB _ (by simp [hlb])⟩
                  | (simp; done)
                  | trace_state
        · have hSe := fun ys H => Set_no (ys := ys) (lo := 0) (H := H) (wr := wr) hA1 (.inl hB1) hq hmn q (by omega) hok (nf_set hA1 hB1)
          repeat' (first
           | refine zka ?_
           | refine zkb ?_
           | (apply RKp.op; ((try simp (disch := (first | ((try simp only [List.length_set, List.map_set, ces_len, setN_len, fixTo_len]); omega) | exact zX | exact zX | exact zO | fail)) only [lnO, lnB, hz, hqe, go_sem, Nat.reduceDiv, Nat.reduceMod, Nat.reduceAdd, Nat.reduceSub, Nat.reduceEqDiff, Nat.reduceLeDiff, Nat.reduceLT, Nat.reduceMul, reduceIte, Nat.reducePow, Int.reduceEq]); exact zL); rfl)
           | (apply RKp.call; ((first | apply hCe | apply hSe | apply hEr) <;> (exact zD)); rfl)
           | refine zkc ?_
           | apply RKg.tt
           | apply RKg.ff
           | refine zkd ?_
           | refine zke ?_
           | refine zkf ?_
           | (refine RKg.split (fun h => ?_) (fun h => ?_) <;> (try rw [h]) <;> (replace h := zB h) <;> (try (exfalso; first | exact h | omega)))
           | apply RK.nil
           | apply V.sq
           | apply V.bl
           | apply V.sc
           | apply V.skip
           | apply V.label
           | apply V.ret
           | apply V.exit
           | apply SeqQ.normal
           | apply SeqQ.ret
           | apply SeqQ.exit
           | apply BlockQ.normal
           | apply BlockQ.ret
           | apply BlockQ.here
           | refine zbt ?_
           | apply LoopS.ret
           | apply LoopS.exit
           | apply LoopF.ret
           | apply LoopF.exit
           | apply V.regK
            | refine zva ?_
           | refine zvb ?_
           | refine zgc ?_
           | refine zvd ?_
           | refine zve ?_
           | (refine zvf (fun h => ?_) (fun h => ?_) <;> (replace h := zB h) <;> (try (exfalso; first | exact h | omega)))
            | (refine zfc Tryz.results6 ?_; (try dsimp only)))
          have hno : ¬ (0 < m.length ∧ q + m.length ≤ r.length) := fun z => hok ⟨hG, hsg z.1, q0, by omega⟩
          all_goals
            refine RKp.gen (fun Hb => ∃ b, OwN Hb H0.next A1 wr (eraW r wr q r.length) r b) ?_ ?_
            · exact ⟨putL r q.toNat (blanks (r.length - q.toNat)), by (first | omega | (simp only [next_push, next_set, next_empty]; done) | (simp only [next_push, next_set, next_empty]; omega)), by simp (disch := (first | omega | exact zX | fail)) only [get_set, get_push, next_push, next_set, if_pos', if_neg', if_true, if_false, reduceIte], by simp (disch := (first | omega | exact zX | fail)) only [get_set, get_push, next_push, next_set, if_pos', if_neg', if_true, if_false, reduceIte], by simp (disch := (first | omega | exact zX | fail)) only [get_set, get_push, next_push, next_set, if_pos', if_neg', if_true, if_false, reduceIte], by simp (disch := (first | omega | exact zX | fail)) only [get_set, get_push, next_push, next_set, if_pos', if_neg', if_true, if_false, reduceIte], by simp (disch := (first | omega | exact zX | fail)) only [get_set, get_push, next_push, next_set, if_pos', if_neg', if_true, if_false, reduceIte], by simp (disch := (first | omega | exact zX | fail)) only [get_set, get_push, next_push, next_set, if_pos', if_neg', if_true, if_false, reduceIte], putL_len _ _ _⟩
            rintro Hb ⟨b, hO⟩
            have k0 := hO.g0; have k2 := hO.g2; have k4 := hO.g3; have k6 := hO.g5
            have ln5 := cb_len 0 hO.g4 hO.lb
            repeat' (first
             | refine zka ?_
             | refine zkb ?_
             | (apply RKp.op; ((try simp (disch := (first | ((try simp only [List.length_set, List.map_set, ces_len, setN_len, fixTo_len]); omega) | exact zX | exact zX | exact zO | fail)) only [d1, k0, k4, lnO, go_sem, Nat.reduceDiv, Nat.reduceMod, Nat.reduceAdd, Nat.reduceSub, Nat.reduceEqDiff, Nat.reduceLeDiff, Nat.reduceLT, Nat.reduceMul, reduceIte, Nat.reducePow, Int.reduceEq]); exact zL); rfl)
             | (apply RKp.callR; (apply hRo <;> (exact zD)); rfl; intro tr htr)
             | refine zkc ?_
             | apply RKg.tt
             | apply RKg.ff
             | refine zkd ?_
             | refine zke ?_
             | refine zkf ?_
             | (refine RKg.split (fun h => ?_) (fun h => ?_) <;> (try rw [h]) <;> (replace h := zB h) <;> (try (exfalso; first | exact h | omega)))
             | apply RK.nil
             | apply V.sq
             | apply V.bl
             | apply V.sc
             | apply V.skip
             | apply V.label
             | apply V.ret
             | apply V.exit
             | apply SeqQ.normal
             | apply SeqQ.ret
             | apply SeqQ.exit
             | apply BlockQ.normal
             | apply BlockQ.ret
             | apply BlockQ.here
             | refine zbt ?_
             | apply LoopS.ret
             | apply LoopS.exit
             | apply LoopF.ret
             | apply LoopF.exit
             | apply V.regK
              | refine zva ?_
             | refine zvb ?_
             | refine zgc ?_
             | refine zvd ?_
             | refine zve ?_
             | (refine zvf (fun h => ?_) (fun h => ?_) <;> (replace h := zB h) <;> (try (exfalso; first | exact h | omega)))
              | (refine zfc Tryz.results6 ?_; (try dsimp only)))
            apply V.lpF [60, 13, 61, 62, 63, 64, 65, 66, 67, 68, 69, 70, 71, 72, 73, 74, 75, 76, 77, 78, 79, 80, 81, 82, 83, 84, 85, 86, 87] (fun k xs => ∃ (i : Nat) (g : _), xs = .v (.int .i64 i) :: g ∧ k = r.length - i ∧ i ≤ r.length) r.length
            focus (intro xs; simp only [putMany, set2, Nat.reduceAdd, Nat.reduceDiv, Nat.reduceMod, nth_zero, nth_succ, List.set_cons_zero, List.set_cons_succ]; rfl)
            focus (first | rfl | simp only [readMany, nth_zero, nth_succ, Nat.reduceDiv, Nat.reduceMod])
            · exact ⟨0, _, rfl, rfl, Nat.zero_le _⟩
            · rintro k xs ⟨i, g, rfl, rfl, hi⟩
              repeat' (first
               | refine zka ?_
               | refine zkb ?_
               | (apply RKp.op; ((try simp (disch := (first | ((try simp only [List.length_set, List.map_set, ces_len, setN_len, fixTo_len]); omega) | exact zX | exact zX | exact zO | fail)) only [k0, k4, lnO, lnB, hz, hqe, k6, ln5, go_sem, Nat.reduceDiv, Nat.reduceMod, Nat.reduceAdd, Nat.reduceSub, Nat.reduceEqDiff, Nat.reduceLeDiff, Nat.reduceLT, Nat.reduceMul, reduceIte, Nat.reducePow, Int.reduceEq]); exact zL); rfl)
               | (apply RKp.call; (apply hCe <;> (exact zD)); rfl)
               | refine zkc ?_
               | apply RKg.tt
               | apply RKg.ff
               | refine zkd ?_
               | refine zke ?_
               | refine zkf ?_
               | (refine RKg.split (fun h => ?_) (fun h => ?_) <;> (try rw [h]) <;> (replace h := zB h) <;> (try (exfalso; first | exact h | omega)))
               | apply RK.nil
               | apply V.sq
               | apply V.bl
               | apply V.sc
               | apply V.skip
               | apply V.label
               | apply V.ret
               | apply V.exit
               | apply SeqQ.normal
               | apply SeqQ.ret
               | apply SeqQ.exit
               | apply BlockQ.normal
               | apply BlockQ.ret
               | apply BlockQ.here
               | refine zbt ?_
               | apply LoopS.ret
               | apply LoopS.exit
               | apply LoopF.ret
               | apply LoopF.exit
               | apply V.regK
                | refine zva ?_
               | refine zvb ?_
               | refine zgc ?_
               | refine zvd ?_
               | refine zve ?_
               | (refine zvf (fun h => ?_) (fun h => ?_) <;> (replace h := zB h) <;> (try (exfalso; first | exact h | omega)))
                | (refine zfc Tryz.results6 ?_; (try dsimp only)))
              all_goals first
                | exact LoopF.again (r.length - (i + 1)) (by rfl) (by omega) ⟨i + 1, _, rfl, rfl, by omega⟩
                | (exfalso; omega)
                | skip
              apply V.lpS [91, 14, 92, 93, 94, 95, 96, 97, 98, 99] (fun k xs H2 => ∃ (i : Nat) (g : _) (b : List Ce), xs = .v (.int .i64 i) :: g ∧ k = r.length - i ∧ i ≤ r.length ∧ OwN H2 H0.next A1 wr (eraW r wr q r.length) r b) r.length
              focus (intro xs; simp only [putMany, set2, Nat.reduceAdd, Nat.reduceDiv, Nat.reduceMod, nth_zero, nth_succ, List.set_cons_zero, List.set_cons_succ]; rfl)
              focus (first | rfl | simp only [readMany, nth_zero, nth_succ, Nat.reduceDiv, Nat.reduceMod])
              · exact ⟨0, _, _, rfl, rfl, Nat.zero_le _, hO⟩
              · rintro k xs H3 ⟨i, g, b, rfl, rfl, hi, hO3⟩
                have k0'' := hO3.g0; have k2'' := hO3.g2; have k5'' := hO3.g4; have k6'' := hO3.g5
                have ix5 := fun h => cb_ix 0 hO3.g4 hO3.lb i h
                have st5 := fun h => st_att 0 hO3.g4 (Nat.zero_le _) 50 (i := i) h
                have hlb := hO3.lb
                have hEq := fun ys lo => EqRow_run (ys := ys) (lo := lo) (H := H3) (wr := wr) (wr' := wr) (.inl hA1) (slh_was (by rw [hO3.nx]; omega) hO3.g1) hq hq
                repeat' (first
                 | refine zka ?_
                 | refine zkb ?_
                 | (apply RKp.op; ((try simp (disch := (first | ((try simp only [List.length_set, List.map_set, ces_len, setN_len, fixTo_len]); omega) | exact zX | exact zX | exact zO | fail)) only [k0'', k2'', k5'', k6'', ix5, st5, go_sem, Nat.reduceDiv, Nat.reduceMod, Nat.reduceAdd, Nat.reduceSub, Nat.reduceEqDiff, Nat.reduceLeDiff, Nat.reduceLT, Nat.reduceMul, reduceIte, Nat.reducePow, Int.reduceEq]); exact zL); rfl)
                 | (apply RKp.callR; (apply hEq <;> (exact zD)); rfl; intro tr htr)
                 | refine zkc ?_
                 | apply RKg.tt
                 | apply RKg.ff
                 | refine zkd ?_
                 | refine zke ?_
                 | refine zkf ?_
                 | (refine RKg.split (fun h => ?_) (fun h => ?_) <;> (try rw [h]) <;> (replace h := zB h) <;> (try (exfalso; first | exact h | omega)))
                 | apply RK.nil
                 | apply V.sq
                 | apply V.bl
                 | apply V.sc
                 | apply V.skip
                 | apply V.label
                 | apply V.ret
                 | apply V.exit
                 | apply SeqQ.normal
                 | apply SeqQ.ret
                 | apply SeqQ.exit
                 | apply BlockQ.normal
                 | apply BlockQ.ret
                 | apply BlockQ.here
                 | refine zbt ?_
                 | apply LoopS.ret
                 | apply LoopS.exit
                 | apply LoopF.ret
                 | apply LoopF.exit
                 | apply V.regK
                  | refine zva ?_
                 | refine zvb ?_
                 | refine zgc ?_
                 | refine zvd ?_
                 | refine zve ?_
                 | (refine zvf (fun h => ?_) (fun h => ?_) <;> (replace h := zB h) <;> (try (exfalso; first | exact h | omega)))
                  | (refine zfc Tryz.results6 ?_; (try dsimp only)))
                all_goals first
                  | exact LoopS.again (r.length - (i + 1)) (by rfl) (by omega) ⟨i + 1, _, _, rfl, rfl, by omega, hO3.setB _ (by simp [hlb])⟩
                  | (simp; done)
                  | trace_state
      · have d1 : decide (rowG r) = false := decide_eq_false hG
        simp only [d1] at hRo
        have hEr := fun ys H => Erase_no (ys := ys) (lo := 0) (H := H) (wr := wr) hA1 hq q r.length hG (nf_era hA1)
        have hSe := fun ys H => Set_no (ys := ys) (lo := 0) (H := H) (wr := wr) hA1 (.inl hB1) hq hmn q (by omega) (fun h => hG h.1) (nf_set hA1 hB1)
        repeat' (first
         | refine zka ?_
         | refine zkb ?_
         | (apply RKp.op; ((try simp (disch := (first | ((try simp only [List.length_set, List.map_set, ces_len, setN_len, fixTo_len]); omega) | exact zX | exact zX | exact zO | fail)) only [lnO, lnB, hz, hqe, go_sem, Nat.reduceDiv, Nat.reduceMod, Nat.reduceAdd, Nat.reduceSub, Nat.reduceEqDiff, Nat.reduceLeDiff, Nat.reduceLT, Nat.reduceMul, reduceIte, Nat.reducePow, Int.reduceEq]); exact zL); rfl)
         | (apply RKp.call; ((first | apply hCe | apply hSe | apply hEr) <;> (exact zD)); rfl)
         | refine zkc ?_
         | apply RKg.tt
         | apply RKg.ff
         | refine zkd ?_
         | refine zke ?_
         | refine zkf ?_
         | (refine RKg.split (fun h => ?_) (fun h => ?_) <;> (try rw [h]) <;> (replace h := zB h) <;> (try (exfalso; first | exact h | omega)))
         | apply RK.nil
         | apply V.sq
         | apply V.bl
         | apply V.sc
         | apply V.skip
         | apply V.label
         | apply V.ret
         | apply V.exit
         | apply SeqQ.normal
         | apply SeqQ.ret
         | apply SeqQ.exit
         | apply BlockQ.normal
         | apply BlockQ.ret
         | apply BlockQ.here
         | refine zbt ?_
         | apply LoopS.ret
         | apply LoopS.exit
         | apply LoopF.ret
         | apply LoopF.exit
         | apply V.regK
          | refine zva ?_
         | refine zvb ?_
         | refine zgc ?_
         | refine zvd ?_
         | refine zve ?_
         | (refine zvf (fun h => ?_) (fun h => ?_) <;> (replace h := zB h) <;> (try (exfalso; first | exact h | omega)))
          | (refine zfc Tryz.results6 ?_; (try dsimp only)))
        all_goals
          refine RKp.gen (fun Hb => Hb.get H0.next = some (rblk A1 wr) ∧ Hb.get (H0.next + 1) = some (cblk 0 r) ∧ Hb.get (H0.next + 1 + 1) = some (rblk (.os (H0.next + 1) 0 0 r.length) wr) ∧ H0.next + 1 < Hb.next) ?_ ?_
          · exact ⟨by simp (disch := (first | omega | exact zX | fail)) only [get_set, get_push, next_push, next_set, if_pos', if_neg', if_true, if_false, reduceIte], by simp (disch := (first | omega | exact zX | fail)) only [get_set, get_push, next_push, next_set, if_pos', if_neg', if_true, if_false, reduceIte], by simp (disch := (first | omega | exact zX | fail)) only [get_set, get_push, next_push, next_set, if_pos', if_neg', if_true, if_false, reduceIte], by (first | omega | (simp only [next_push, next_set, next_empty]; done) | (simp only [next_push, next_set, next_empty]; omega))⟩
          rintro Hb ⟨k0, k1, k2, kn⟩
          have hEq := fun ys lo => EqRow_run (ys := ys) (lo := lo) (H := Hb) (wr := wr) (wr' := wr) (.inl hA1) (slh_was kn k1) hq hq
          repeat' (first
           | refine zka ?_
           | refine zkb ?_
           | (apply RKp.op; ((try simp (disch := (first | ((try simp only [List.length_set, List.map_set, ces_len, setN_len, fixTo_len]); omega) | exact zX | exact zX | exact zO | fail)) only [d1, k0, k2, go_sem, Nat.reduceDiv, Nat.reduceMod, Nat.reduceAdd, Nat.reduceSub, Nat.reduceEqDiff, Nat.reduceLeDiff, Nat.reduceLT, Nat.reduceMul, reduceIte, Nat.reducePow, Int.reduceEq]); exact zL); rfl)
           | (apply RKp.callR; ((first | apply hRo | apply hEq) <;> (exact zD)); rfl; intro tr htr)
           | refine zkc ?_
           | apply RKg.tt
           | apply RKg.ff
           | refine zkd ?_
           | refine zke ?_
           | refine zkf ?_
           | (refine RKg.split (fun h => ?_) (fun h => ?_) <;> (try rw [h]) <;> (replace h := zB h) <;> (try (exfalso; first | exact h | omega)))
           | apply RK.nil
           | apply V.sq
           | apply V.bl
           | apply V.sc
           | apply V.skip
           | apply V.label
           | apply V.ret
           | apply V.exit
           | apply SeqQ.normal
           | apply SeqQ.ret
           | apply SeqQ.exit
           | apply BlockQ.normal
           | apply BlockQ.ret
           | apply BlockQ.here
           | refine zbt ?_
           | apply LoopS.ret
           | apply LoopS.exit
           | apply LoopF.ret
           | apply LoopF.exit
           | apply V.regK
            | refine zva ?_
           | refine zvb ?_
           | refine zgc ?_
           | refine zvd ?_
           | refine zve ?_
           | (refine zvf (fun h => ?_) (fun h => ?_) <;> (replace h := zB h) <;> (try (exfalso; first | exact h | omega)))
            | (refine zfc Tryz.results6 ?_; (try dsimp only)))
          all_goals first
            | (simp; done)
            | trace_state
theorem RowOwn_run (u : List AV) (h : Wd Tryz.prog 6 47 u) (col : Int) (hc : (Lit.int .i64 col).wf = true) (c : Int) (hcc : (Lit.int .i32 c).wf = true) : WC EO [] 0 6 [.agg u, .v (.int .i64 col), .v (.int .i32 c)] .empty fun x _ => x = .v (.bool true) := by
  obtain ⟨A, l, wr, rfl, hA, hl, hr⟩ := wd_row h
  exact RowOwn_law hA hl hr col c (i64_wf hc) (i32_wf hcc)
end
end Go.Am
