
/- Keys: the reference's Deed. -/
import Derived.Test.YtpaakagaiogknaaGreatKLinA
set_option linter.all false
set_option linter.deprecated false
namespace Go.Am
variable {oc : Orc} [OrcI oc]
open Go.Proofs
set_option maxRecDepth 8000
set_option maxHeartbeats 8000000
theorem index_strD (E : Env) (lo : Nat) (H : AHeap) (t : TypeId) (s : ByteArray) (κ : IntKind) (i : Nat) (ht : isStrT E.P t = true) (h : decide ((i : Int) < (s.size : Int)) = true) : primL lo H (indexA E t (.v (.string s)) (.v (.int κ (i : Int)))) = some (.v (.int .u8 ((s.data.toList.getD i 0).toNat : Int)), H, ⟨0, 0, 0⟩) := by
  have e : s.size = s.data.toList.length := rfl
  have h1 : i < s.data.toList.length := by have := of_decide_eq_true h; omega
  simp only [indexA, isStrT_ok ht]
  rw [if_pos (by omega), Int.toNat_natCast, List.getElem?_eq_getElem h1, List.getD_eq_getElem?_getD, List.getElem?_eq_getElem h1]
  rfl
theorem slice_str (E : Env) (t : TypeId) (s : ByteArray) (a b : Option AV) {l r : Nat} (ht : isStrT E.P t = true) (ha : bound? a 0 = some l) (hb : bound? b s.size = some r) (h1 : l ≤ r) (h2 : r ≤ s.size) : sliceA E t (.v (.string s)) a b none = .val (.v (.string (s.extract l r))) := by
  simp only [sliceA, ha, hb]
  rw [if_pos ⟨h1, h2, ht⟩]
theorem extract_size (s : ByteArray) (l r : Nat) (h1 : l ≤ r) (h2 : r ≤ s.size) : (s.extract l r).size = r - l := by
  rw [ByteArray.size_extract]; omega

/-- Words between blanks. -/
def wdsG (acc : List UInt8) : List UInt8 → List (List UInt8)
  | [] => [acc]
  | c :: r => if c = 32 then acc :: (if r = [] then [] else wdsG [] r) else wdsG (acc ++ [c]) r
def wds (s : List UInt8) : List (List UInt8) := if s = [] then [] else wdsG [] s
theorem wdsG_step (s : List UInt8) : ∀ (acc : List UInt8) (k : Nat), k ≤ s.length → (∀ j, j < k → s.getD j 0 ≠ 32) → (k = s.length ∨ s.getD k 0 = 32) → wdsG acc s = (acc ++ s.take k) :: wds (s.drop (k + 1)) := by
  induction s with
  | nil =>
    intro acc k hk _ _
    rw [wdsG, List.take_nil, List.append_nil, List.drop_nil]; rfl
  | cons c r ih =>
    intro acc k hk hn hs
    by_cases h : c = 32
    · subst h
      have k0 : k = 0 := by
        rcases Nat.eq_zero_or_pos k with z | z
        · exact z
        · exact absurd rfl (hn 0 z)
      subst k0
      rw [wdsG, if_pos rfl, List.take_zero, List.append_nil, List.drop_succ_cons, List.drop_zero]
      rfl
    · cases k with
      | zero =>
        rcases hs with hs | hs
        · cases hs
        · exact absurd hs h
      | succ k =>
        rw [wdsG, if_neg h, ih (acc ++ [c]) k (by simpa using hk) (fun j hj => hn (j + 1) (by omega)) (by simpa using hs), List.take_succ_cons, List.drop_succ_cons, List.append_assoc]
        rfl
theorem wds_step {s : List UInt8} {k : Nat} (h0 : s ≠ []) (hk : k ≤ s.length) (hn : ∀ j, j < k → s.getD j 0 ≠ 32) (hs : k = s.length ∨ s.getD k 0 = 32) : wds s = s.take k :: wds (s.drop (k + 1)) := by
  rw [wds, if_neg h0, wdsG_step s [] k hk hn hs, List.nil_append]
def viL : List ByteArray := [⟨#[]⟩, ⟨#[104, 32, 76, 101, 102, 116]⟩, ⟨#[108, 32, 82, 105, 103, 104, 116]⟩, ⟨#[107, 32, 85, 112]⟩, ⟨#[106, 32, 68, 111, 119, 110]⟩, ⟨#[48]⟩, ⟨#[36]⟩, ⟨#[103]⟩, ⟨#[71]⟩, ⟨#[119]⟩, ⟨#[98]⟩, ⟨#[118, 32, 83, 112, 97, 99, 101]⟩, ⟨#[86]⟩, ⟨#[67, 45, 118]⟩, ⟨#[121, 32, 69, 110, 116, 101, 114]⟩, ⟨#[113, 32, 69, 115, 99, 97, 112, 101]⟩, ⟨#[110]⟩, ⟨#[78]⟩, ⟨#[111]⟩, ⟨#[101]⟩]
def emL : List ByteArray := [⟨#[]⟩, ⟨#[67, 45, 98, 32, 76, 101, 102, 116]⟩, ⟨#[67, 45, 102, 32, 82, 105, 103, 104, 116]⟩, ⟨#[67, 45, 112, 32, 85, 112]⟩, ⟨#[67, 45, 110, 32, 68, 111, 119, 110]⟩, ⟨#[67, 45, 97]⟩, ⟨#[67, 45, 101]⟩, ⟨#[77, 45, 60]⟩, ⟨#[77, 45, 62]⟩, ⟨#[77, 45, 102]⟩, ⟨#[77, 45, 98]⟩, ⟨#[67, 45, 83, 112, 97, 99, 101]⟩, ⟨#[]⟩, ⟨#[82]⟩, ⟨#[77, 45, 119]⟩, ⟨#[113, 32, 67, 45, 103]⟩, ⟨#[110]⟩, ⟨#[78]⟩, ⟨#[67, 45, 120]⟩, ⟨#[]⟩]
def strE (l : List ByteArray) : List (List AV) := l.map fun s => [.v (.string s)]
theorem strE_len (l : List ByteArray) : (strE l).length = l.length := List.length_map _
theorem nth_strE (l : List ByteArray) (i : Nat) (h : i < l.length) : nth [] (strE l) i = [.v (.string (l.getD i ByteArray.empty))] := nth_map _ l i ByteArray.empty h
theorem vi_lit : ([[.v (.string ⟨#[]⟩)], [.v (.string ⟨#[104, 32, 76, 101, 102, 116]⟩)], [.v (.string ⟨#[108, 32, 82, 105, 103, 104, 116]⟩)], [.v (.string ⟨#[107, 32, 85, 112]⟩)], [.v (.string ⟨#[106, 32, 68, 111, 119, 110]⟩)], [.v (.string ⟨#[48]⟩)], [.v (.string ⟨#[36]⟩)], [.v (.string ⟨#[103]⟩)], [.v (.string ⟨#[71]⟩)], [.v (.string ⟨#[119]⟩)], [.v (.string ⟨#[98]⟩)], [.v (.string ⟨#[118, 32, 83, 112, 97, 99, 101]⟩)], [.v (.string ⟨#[86]⟩)], [.v (.string ⟨#[67, 45, 118]⟩)], [.v (.string ⟨#[121, 32, 69, 110, 116, 101, 114]⟩)], [.v (.string ⟨#[113, 32, 69, 115, 99, 97, 112, 101]⟩)], [.v (.string ⟨#[110]⟩)], [.v (.string ⟨#[78]⟩)], [.v (.string ⟨#[111]⟩)], [.v (.string ⟨#[101]⟩)]] : List (List AV)) = strE viL := rfl
theorem em_lit : ([[.v (.string ⟨#[]⟩)], [.v (.string ⟨#[67, 45, 98, 32, 76, 101, 102, 116]⟩)], [.v (.string ⟨#[67, 45, 102, 32, 82, 105, 103, 104, 116]⟩)], [.v (.string ⟨#[67, 45, 112, 32, 85, 112]⟩)], [.v (.string ⟨#[67, 45, 110, 32, 68, 111, 119, 110]⟩)], [.v (.string ⟨#[67, 45, 97]⟩)], [.v (.string ⟨#[67, 45, 101]⟩)], [.v (.string ⟨#[77, 45, 60]⟩)], [.v (.string ⟨#[77, 45, 62]⟩)], [.v (.string ⟨#[77, 45, 102]⟩)], [.v (.string ⟨#[77, 45, 98]⟩)], [.v (.string ⟨#[67, 45, 83, 112, 97, 99, 101]⟩)], [.v (.string ⟨#[]⟩)], [.v (.string ⟨#[82]⟩)], [.v (.string ⟨#[77, 45, 119]⟩)], [.v (.string ⟨#[113, 32, 67, 45, 103]⟩)], [.v (.string ⟨#[110]⟩)], [.v (.string ⟨#[78]⟩)], [.v (.string ⟨#[67, 45, 120]⟩)], [.v (.string ⟨#[]⟩)]] : List (List AV)) = strE emL := rfl
def hitP (l : List ByteArray) (key : ByteArray) (j : Nat) : Prop := 1 ≤ j ∧ key.size ≠ 0 ∧ key.data.toList ∈ wds (l.getD j ByteArray.empty).data.toList
instance (l : List ByteArray) (key : ByteArray) (j : Nat) : Decidable (hitP l key j) := inferInstanceAs (Decidable (_ ∧ _))
def refD (l : List ByteArray) (key : ByteArray) : Nat := ((List.range 20).find? fun j => decide (hitP l key j)).getD 0
theorem refD_hit {l : List ByteArray} {key : ByteArray} {i : Nat} (hi : i < 20) (h : hitP l key i) (hn : ∀ j, j < i → ¬ hitP l key j) : refD l key = i := by
  unfold refD
  rw [List.find?_range_eq_some.2 ⟨decide_eq_true h, List.mem_range.2 hi, fun j hj => by rw [decide_eq_false (hn j hj)]; rfl⟩]; rfl
theorem refD_no {l : List ByteArray} {key : ByteArray} (hn : ∀ j, j < 20 → ¬ hitP l key j) : refD l key = 0 := by
  unfold refD
  rw [List.find?_eq_none.2 fun j hj => by rw [decide_eq_false (hn j (List.mem_range.1 hj))]; exact Bool.false_ne_true]; rfl
theorem ext_list (s : ByteArray) (a b : Nat) : (s.extract a b).data.toList = (s.data.toList.drop a).take (b - a) := by
  rw [ByteArray.data_extract, Array.toList_extract]
theorem ba_list {a b : ByteArray} : a = b ↔ a.data.toList = b.data.toList := ⟨fun h => by rw [h], fun h => ByteArray.ext (Array.ext' h)⟩
section
variable {ys : List (Nat × LRec)} {lo : Nat} {H : AHeap}
theorem refDeedE_run (key : ByteArray) : CallRo (ELo oc) ys lo 17 [.v (.int .i64 2), .v (.string key)] H (.v (.int .i64 (refD emL key : Nat))) := by
  refine WC.pureR rfl fun lo' H' hh => ?_
  have hlo := lo_two hh
  refine zvin Tryz.func17 Tryz.ntmps17 ?_
  repeat' (first | refine zka ?_ | refine zkb ?_ | (apply RKp.op; ((try simp (disch := (first | omega | exact zX | exact zO | fail)) only [go_sem, Nat.reduceDiv, Nat.reduceMod, Nat.reduceAdd, Nat.reduceSub, Nat.reduceEqDiff, Nat.reduceLeDiff, Nat.reduceLT, Nat.reduceMul, reduceIte, Nat.reducePow, Int.reduceEq]); exact zL); rfl) | refine zkc ?_ | apply RKg.tt | apply RKg.ff | refine zkd ?_ | refine zke ?_ | refine zkf ?_ | (refine RKg.split (fun h => ?_) (fun h => ?_) <;> (try rw [h]) <;> (replace h := zB h) <;> (try (exfalso; first | exact h | omega))) | apply RK.nil | apply V.sq | apply V.bl | apply V.sc | apply V.skip | apply V.label | apply V.ret | apply V.exit | apply SeqQ.normal | apply SeqQ.ret | apply SeqQ.exit | apply BlockQ.normal | apply BlockQ.ret | apply BlockQ.here | refine zbt ?_ | apply LoopS.ret | apply LoopS.exit | apply LoopF.ret | apply LoopF.exit | apply V.regK | refine zvd ?_ | refine zve ?_ | (refine zvf (fun h => ?_) (fun h => ?_) <;> (replace h := zB h) <;> (try (exfalso; first | exact h | omega))) | (refine zfc Tryz.results17 ?_; (try dsimp only)))
  rw [vi_lit, em_lit]
  generalize hHs : (H'.push ⟨9, 1, 0, strE viL, none⟩).push ⟨9, 1, 0, strE emL, none⟩ = Hs
  generalize hy : AV.os (H'.next + 1) 0 0 20 = y
  obtain ⟨L, hLe⟩ : ∃ L, L = emL := ⟨_, rfl⟩
  have hy1 : SlH Hs 1 y (strE L) := .inr ⟨H'.next + 1, 0, 0, ⟨9, 1, 0, strE emL, none⟩, by rw [← hy, hLe]; rfl, by rw [← hHs]; (first | omega | (simp only [next_push, next_set, next_empty]; done) | (simp only [next_push, next_set, next_empty]; omega)), by rw [← hHs]; simp (disch := (first | omega | exact zX | fail)) only [get_set, get_push, next_push, next_set, if_pos', if_neg', if_true, if_false, reduceIte], rfl, rfl, rfl, by rw [hLe]; decide, by rw [hLe]; rfl⟩
  rw [← hLe]
  clear hHs hy
  have hL : L.length = 20 := by rw [hLe]; rfl
  have hsz : ∀ j, j < 20 → (L.getD j ByteArray.empty).size ≤ 20 := by rw [hLe]; decide
  clear hLe
  have lnY : primL lo' Hs (builtinA (ELo oc) .len #[38] 3 [y]) = some (.v (.int .i64 20), Hs, rdTr y) := by
    have := len_SlH (ELo oc) lo' 38 3 hy1 (by kernel_rfl)
    rw [strE_len, hL] at this; exact this
  have ixY : ∀ (z : Int), 0 ≤ z → z < 20 → primL lo' Hs (indexAddrA (ELo oc) 38 y (.v (.int .i64 z))) = some (ixA y (strE L) z.toNat, Hs, rdTr y) := fun z z0 z1 => ix_SlH (ELo oc) lo' 38 .i64 z hy1 (by kernel_rfl) z0 (by rw [strE_len, hL]; exact z1)
  have ldY : ∀ j, j < 20 → primL lo' Hs (loadA (ELo oc) 9 (ixA y (strE L) j)) = some (.v (.string (L.getD j ByteArray.empty)), Hs, rdTr y) := fun j hj => by
    rw [load_SlH (ELo oc) lo' 9 j hy1 (by rw [strE_len, hL]; exact hj), nth_strE L j (by omega)]; rfl
  apply V.lpF [8, 4, 9, 10, 17, 18, 19, 20, 21, 22, 23, 24, 25, 26, 27, 28, 29, 30, 31, 32, 33, 34, 35, 36, 37, 38, 39, 40, 41, 42, 43, 44, 45, 46, 47, 48, 49, 50, 51, 52, 53, 54, 55, 56, 57, 58, 59, 60, 61, 62, 63, 64, 65] (fun k xs => ∃ (i : Nat) (g : _), xs = .v (.int .i64 i) :: g ∧ k = 20 - i ∧ 1 ≤ i ∧ i ≤ 20 ∧ ∀ j, j < i → ¬ hitP L key j) 19
  focus (intro xs; simp only [putMany, set2, Nat.reduceAdd, Nat.reduceDiv, Nat.reduceMod, nth_zero, nth_succ, List.set_cons_zero, List.set_cons_succ]; rfl)
  focus (first | rfl | simp only [readMany, nth_zero, nth_succ, Nat.reduceDiv, Nat.reduceMod])
  · exact ⟨1, _, rfl, rfl, Nat.le_refl _, by omega, fun j h z => by have := z.1; omega⟩
  · rintro k xs ⟨i, g, rfl, rfl, hi1, hi2, hno⟩
    by_cases hlt : i < 20
    · have hs20 := hsz i hlt
      repeat' (first | refine zka ?_ | refine zkb ?_ | (apply RKp.op; ((try simp (disch := (first | omega | exact zX | exact zO | fail)) only [lnY, ixY, ldY, Int.toNat_natCast, go_sem, Nat.reduceDiv, Nat.reduceMod, Nat.reduceAdd, Nat.reduceSub, Nat.reduceEqDiff, Nat.reduceLeDiff, Nat.reduceLT, Nat.reduceMul, reduceIte, Nat.reducePow, Int.reduceEq]); exact zL); rfl) | refine zkc ?_ | apply RKg.tt | apply RKg.ff | refine zkd ?_ | refine zke ?_ | refine zkf ?_ | (refine RKg.split (fun h => ?_) (fun h => ?_) <;> (try rw [h]) <;> (replace h := zB h) <;> (try (exfalso; first | exact h | omega))) | apply RK.nil | apply V.sq | apply V.bl | apply V.sc | apply V.skip | apply V.label | apply V.ret | apply V.exit | apply SeqQ.normal | apply SeqQ.ret | apply SeqQ.exit | apply BlockQ.normal | apply BlockQ.ret | apply BlockQ.here | refine zbt ?_ | apply LoopS.ret | apply LoopS.exit | apply LoopF.ret | apply LoopF.exit | apply V.regK | refine zvd ?_ | refine zve ?_ | (refine zvf (fun h => ?_) (fun h => ?_) <;> (replace h := zB h) <;> (try (exfalso; first | exact h | omega))) | (refine zfc Tryz.results17 ?_; (try dsimp only)))
      apply V.lpF [9, 4, 10, 35, 36, 37, 38, 39, 40, 41, 42, 43, 44, 45, 46, 47, 48, 49, 50, 51, 52, 53, 54, 55, 56, 57, 58, 59, 60, 61, 62, 63, 64, 65] (fun k xs => ∃ (s : ByteArray) (g : _), xs = .v (.string s) :: g ∧ k = s.size ∧ s.size ≤ 20 ∧ (key.size ≠ 0 → (key.data.toList ∈ wds s.data.toList ↔ key.data.toList ∈ wds (L.getD i ByteArray.empty).data.toList))) (L.getD i ByteArray.empty).size
      focus (intro xs; simp only [putMany, set2, Nat.reduceAdd, Nat.reduceDiv, Nat.reduceMod, nth_zero, nth_succ, List.set_cons_zero, List.set_cons_succ]; rfl)
      focus (first | rfl | simp only [readMany, nth_zero, nth_succ, Nat.reduceDiv, Nat.reduceMod])
      · exact ⟨_, _, rfl, rfl, hs20, fun _ => Iff.rfl⟩
      · rintro k xs ⟨s, g, rfl, rfl, hs, hiff⟩
        have eS : s.size = s.data.toList.length := rfl
        have ixS : ∀ G (z : Int), 0 ≤ z → z < s.size → primL lo' G (indexA (ELo oc) 9 (.v (.string s)) (.v (.int .i64 z))) = some (.v (.int .u8 ((s.data.toList.getD z.toNat 0).toNat : Int)), G, ⟨0, 0, 0⟩) := fun G z z0 z1 => by
          have := index_strD (ELo oc) lo' G 9 s .i64 z.toNat (by kernel_rfl) (decide_eq_true (by omega))
          rw [Int.toNat_of_nonneg z0] at this; exact this
        by_cases hse : s = ByteArray.empty
        · have hno2 : ¬ hitP L key i := fun z => by
            have := (hiff z.2.1).2 z.2.2
            rw [hse] at this
            exact absurd this List.not_mem_nil
          have hB : (s.toList == (⟨#[]⟩ : ByteArray).toList) = true := by rw [ba_eq]; exact decide_eq_true hse
          repeat' (first | refine zka ?_ | refine zkb ?_ | (apply RKp.op; ((try simp (disch := (first | omega | exact zX | exact zO | fail)) only [go_sem, Nat.reduceDiv, Nat.reduceMod, Nat.reduceAdd, Nat.reduceSub, Nat.reduceEqDiff, Nat.reduceLeDiff, Nat.reduceLT, Nat.reduceMul, reduceIte, Nat.reducePow, Int.reduceEq]); exact zL); rfl) | refine zkc ?_ | apply RKg.tt | apply RKg.ff | refine zkd ?_ | refine zke ?_ | refine zkf ?_ | (refine RKg.split (fun h => ?_) (fun h => ?_) <;> (try rw [h]) <;> (replace h := zB h) <;> (try (exfalso; first | exact h | omega))) | apply RK.nil | apply V.sq | apply V.bl | apply V.sc | apply V.skip | apply V.label | apply V.ret | apply V.exit | apply SeqQ.normal | apply SeqQ.ret | apply SeqQ.exit | apply BlockQ.normal | apply BlockQ.ret | apply BlockQ.here | refine zbt ?_ | apply LoopS.ret | apply LoopS.exit | apply LoopF.ret | apply LoopF.exit | apply V.regK | refine zvd ?_ | refine zve ?_ | (refine zvf (fun h => ?_) (fun h => ?_) <;> (replace h := zB h) <;> (try (exfalso; first | exact h | omega))) | (refine zfc Tryz.results17 ?_; (try dsimp only)))
          all_goals first
            | (exfalso; exact absurd (hB.symm.trans ‹_›) (by decide))
            | skip
          refine LoopF.again (20 - (i + 1)) (by rfl) (by omega) ⟨i + 1, _, rfl, rfl, by omega, by omega, fun j hj => ?_⟩
          rcases Nat.lt_or_ge j i with z | z
          · exact hno j z
          · have : j = i := by omega
            subst this; exact hno2
        · have hsz2 : s.size ≠ 0 := fun z => hse (ByteArray.ext (Array.eq_empty_of_size_eq_zero z))
          have hB : (s.toList == (⟨#[]⟩ : ByteArray).toList) = false := by rw [ba_eq]; exact decide_eq_false hse
          have hl0 : s.data.toList ≠ [] := fun z => hsz2 (by rw [eS, z]; rfl)
          repeat' (first | refine zka ?_ | refine zkb ?_ | (apply RKp.op; ((try simp (disch := (first | omega | exact zX | exact zO | fail)) only [go_sem, Nat.reduceDiv, Nat.reduceMod, Nat.reduceAdd, Nat.reduceSub, Nat.reduceEqDiff, Nat.reduceLeDiff, Nat.reduceLT, Nat.reduceMul, reduceIte, Nat.reducePow, Int.reduceEq]); exact zL); rfl) | refine zkc ?_ | apply RKg.tt | apply RKg.ff | refine zkd ?_ | refine zke ?_ | refine zkf ?_ | (refine RKg.split (fun h => ?_) (fun h => ?_) <;> (try rw [h]) <;> (replace h := zB h) <;> (try (exfalso; first | exact h | omega))) | apply RK.nil | apply V.sq | apply V.bl | apply V.sc | apply V.skip | apply V.label | apply V.ret | apply V.exit | apply SeqQ.normal | apply SeqQ.ret | apply SeqQ.exit | apply BlockQ.normal | apply BlockQ.ret | apply BlockQ.here | refine zbt ?_ | apply LoopS.ret | apply LoopS.exit | apply LoopF.ret | apply LoopF.exit | apply V.regK | refine zvd ?_ | refine zve ?_ | (refine zvf (fun h => ?_) (fun h => ?_) <;> (replace h := zB h) <;> (try (exfalso; first | exact h | omega))) | (refine zfc Tryz.results17 ?_; (try dsimp only)))
          all_goals first
            | (exfalso; exact absurd (hB.symm.trans ‹_›) (by decide))
            | skip
          apply V.lpF [10, 37, 38, 39, 40, 41, 42, 43, 44, 45, 46, 47, 48] (fun k xs => ∃ (q : Nat) (g : _), xs = .v (.int .i64 q) :: g ∧ k = s.size - q ∧ q ≤ s.size ∧ ∀ j, j < q → s.data.toList.getD j 0 ≠ 32) s.size
          focus (intro xs; simp only [putMany, set2, Nat.reduceAdd, Nat.reduceDiv, Nat.reduceMod, nth_zero, nth_succ, List.set_cons_zero, List.set_cons_succ]; rfl)
          focus (first | rfl | simp only [readMany, nth_zero, nth_succ, Nat.reduceDiv, Nat.reduceMod])
          · exact ⟨0, _, rfl, rfl, Nat.zero_le _, fun j h => absurd h (Nat.not_lt_zero _)⟩
          · rintro k xs ⟨q, g, rfl, rfl, hq, hn⟩
            have slS1 : sliceA (ELo oc) 9 (.v (.string s)) none (some (.v (.int .i64 (q : Int)))) none = .val (.v (.string (s.extract 0 q))) := slice_str (ELo oc) 9 s none _ (by kernel_rfl) (bound_none 0) (by rw [bound_some .i64 _ _ (Int.natCast_nonneg q), Int.toNat_natCast]) (Nat.zero_le _) hq
            by_cases hgo : q < s.size ∧ s.data.toList.getD q 0 ≠ 32
            · have hb : ¬ ((s.data.toList.getD q 0).toNat : Int) = 32 := fun z => hgo.2 (UInt8.toNat_inj.1 (by have h32 : (32 : UInt8).toNat = 32 := rfl; omega))
              repeat' (first | refine zka ?_ | refine zkb ?_ | (apply RKp.op; ((try simp (disch := (first | omega | exact zX | exact zO | fail)) only [ixS, hb, Int.toNat_natCast, go_sem, Nat.reduceDiv, Nat.reduceMod, Nat.reduceAdd, Nat.reduceSub, Nat.reduceEqDiff, Nat.reduceLeDiff, Nat.reduceLT, Nat.reduceMul, reduceIte, Nat.reducePow, Int.reduceEq]); exact zL); rfl) | refine zkc ?_ | apply RKg.tt | apply RKg.ff | refine zkd ?_ | refine zke ?_ | refine zkf ?_ | (refine RKg.split (fun h => ?_) (fun h => ?_) <;> (try rw [h]) <;> (replace h := zB h) <;> (try (exfalso; first | exact h | omega))) | apply RK.nil | apply V.sq | apply V.bl | apply V.sc | apply V.skip | apply V.label | apply V.ret | apply V.exit | apply SeqQ.normal | apply SeqQ.ret | apply SeqQ.exit | apply BlockQ.normal | apply BlockQ.ret | apply BlockQ.here | refine zbt ?_ | apply LoopS.ret | apply LoopS.exit | apply LoopF.ret | apply LoopF.exit | apply V.regK | refine zvd ?_ | refine zve ?_ | (refine zvf (fun h => ?_) (fun h => ?_) <;> (replace h := zB h) <;> (try (exfalso; first | exact h | omega))) | (refine zfc Tryz.results17 ?_; (try dsimp only)))
              all_goals first
                | (exfalso; omega)
                | skip
              refine LoopF.again (s.size - (q + 1)) (by rfl) (by omega) ⟨q + 1, _, rfl, rfl, by omega, fun j hj => ?_⟩
              rcases Nat.lt_or_ge j q with z | z
              · exact hn j z
              · have : j = q := by omega
                subst this; exact hgo.2
            · have hst : q = s.data.toList.length ∨ s.data.toList.getD q 0 = 32 := by
                by_cases z : q < s.size
                · refine .inr ?_
                  exact Classical.byContradiction fun y => hgo ⟨z, y⟩
                · exact .inl (by omega)
              have hst3 : ¬ (q < s.size) ∨ ((s.data.toList.getD q 0).toNat : Int) = 32 := by
                rcases hst with z | z
                · exact .inl (by omega)
                · exact .inr (by rw [z]; rfl)
              have hW := wds_step hl0 (by omega) hn hst
              have hx0 : (s.extract 0 q).data.toList = s.data.toList.take q := by rw [ext_list, List.drop_zero, Nat.sub_zero]
              obtain ⟨m, hm⟩ : ∃ m : Nat, m = min (q + 1) s.size := ⟨_, rfl⟩
              have hmI : min ((q : Int) + 1) (s.size : Int) = (m : Int) := by omega
              have slS2 : sliceA (ELo oc) 9 (.v (.string s)) (some (.v (.int .i64 (m : Int)))) none none = .val (.v (.string (s.extract m s.size))) := slice_str (ELo oc) 9 s _ none (by kernel_rfl) (by rw [bound_some .i64 _ _ (Int.natCast_nonneg m), Int.toNat_natCast]) (bound_none _) (by omega) (Nat.le_refl _)
              have hx1 : wds (s.extract m s.size).data.toList = wds (s.data.toList.drop (q + 1)) := by
                rw [ext_list]
                by_cases z : q < s.size
                · have : m = q + 1 := by omega
                  rw [this, List.take_of_length_le (by rw [List.length_drop]; omega)]
                · have : m = s.size := by omega
                  rw [this, Nat.sub_self, List.take_zero, List.drop_eq_nil_of_le (by omega)]
              have hx2 : (s.extract m s.size).size = s.size - m := extract_size s m s.size (by omega) (Nat.le_refl _)
              by_cases hk : s.extract 0 q = key
              · have hkl : key.data.toList = s.data.toList.take q := by rw [← hk, hx0]
                have hB1 : ((s.extract 0 q).toList == key.toList) = true := by rw [ba_eq]; exact decide_eq_true hk
                by_cases hz : key = ByteArray.empty
                · have hz0 : ¬ key.size ≠ 0 := fun z => z (by rw [hz]; rfl)
                  have hB2 : (key.toList == (⟨#[]⟩ : ByteArray).toList) = true := by rw [ba_eq]; exact decide_eq_true hz
                  repeat' (first | refine zka ?_ | refine zkb ?_ | (apply RKp.op; ((try simp (disch := (first | omega | exact zX | exact zO | fail)) only [ixS, slS1, slS2, hmI, Int.toNat_natCast, go_sem, Nat.reduceDiv, Nat.reduceMod, Nat.reduceAdd, Nat.reduceSub, Nat.reduceEqDiff, Nat.reduceLeDiff, Nat.reduceLT, Nat.reduceMul, reduceIte, Nat.reducePow, Int.reduceEq]); exact zL); rfl) | refine zkc ?_ | apply RKg.tt | apply RKg.ff | refine zkd ?_ | refine zke ?_ | refine zkf ?_ | (refine RKg.split (fun h => ?_) (fun h => ?_) <;> (try rw [h]) <;> (replace h := zB h) <;> (try (exfalso; first | exact h | omega))) | apply RK.nil | apply V.sq | apply V.bl | apply V.sc | apply V.skip | apply V.label | apply V.ret | apply V.exit | apply SeqQ.normal | apply SeqQ.ret | apply SeqQ.exit | apply BlockQ.normal | apply BlockQ.ret | apply BlockQ.here | refine zbt ?_ | apply LoopS.ret | apply LoopS.exit | apply LoopF.ret | apply LoopF.exit | apply V.regK | refine zvd ?_ | refine zve ?_ | (refine zvf (fun h => ?_) (fun h => ?_) <;> (replace h := zB h) <;> (try (exfalso; first | exact h | omega))) | (refine zfc Tryz.results17 ?_; (try dsimp only)))
                  all_goals first
                    | (exfalso; exact absurd (hB1.symm.trans ‹_›) (by decide))
                    | (exfalso; exact absurd (hB2.symm.trans ‹_›) (by decide))
                    | (exfalso; omega)
                    | skip
                  all_goals exact LoopF.again (s.extract m s.size).size (by rfl) (by omega) ⟨_, _, rfl, rfl, by omega, fun z => absurd z hz0⟩
                · have hz0 : key.size ≠ 0 := fun z => hz (ByteArray.ext (Array.eq_empty_of_size_eq_zero z))
                  have hB2 : (key.toList == (⟨#[]⟩ : ByteArray).toList) = false := by rw [ba_eq]; exact decide_eq_false hz
                  have hit : hitP L key i := ⟨hi1, hz0, (hiff hz0).1 (by rw [hW, hkl]; exact List.mem_cons_self)⟩
                  repeat' (first | refine zka ?_ | refine zkb ?_ | (apply RKp.op; ((try simp (disch := (first | omega | exact zX | exact zO | fail)) only [ixS, slS1, slS2, hmI, Int.toNat_natCast, go_sem, Nat.reduceDiv, Nat.reduceMod, Nat.reduceAdd, Nat.reduceSub, Nat.reduceEqDiff, Nat.reduceLeDiff, Nat.reduceLT, Nat.reduceMul, reduceIte, Nat.reducePow, Int.reduceEq]); exact zL); rfl) | refine zkc ?_ | apply RKg.tt | apply RKg.ff | refine zkd ?_ | refine zke ?_ | refine zkf ?_ | (refine RKg.split (fun h => ?_) (fun h => ?_) <;> (try rw [h]) <;> (replace h := zB h) <;> (try (exfalso; first | exact h | omega))) | apply RK.nil | apply V.sq | apply V.bl | apply V.sc | apply V.skip | apply V.label | apply V.ret | apply V.exit | apply SeqQ.normal | apply SeqQ.ret | apply SeqQ.exit | apply BlockQ.normal | apply BlockQ.ret | apply BlockQ.here | refine zbt ?_ | apply LoopS.ret | apply LoopS.exit | apply LoopF.ret | apply LoopF.exit | apply V.regK | refine zvd ?_ | refine zve ?_ | (refine zvf (fun h => ?_) (fun h => ?_) <;> (replace h := zB h) <;> (try (exfalso; first | exact h | omega))) | (refine zfc Tryz.results17 ?_; (try dsimp only)))
                  all_goals first
                    | (exfalso; exact absurd (hB1.symm.trans ‹_›) (by decide))
                    | (exfalso; exact absurd (hB2.symm.trans ‹_›) (by decide))
                    | (exfalso; omega)
                    | skip
                  all_goals
                    rw [refD_hit hlt hit hno]; rfl
              · have hB1 : ((s.extract 0 q).toList == key.toList) = false := by rw [ba_eq]; exact decide_eq_false hk
                repeat' (first | refine zka ?_ | refine zkb ?_ | (apply RKp.op; ((try simp (disch := (first | omega | exact zX | exact zO | fail)) only [ixS, slS1, slS2, hmI, Int.toNat_natCast, go_sem, Nat.reduceDiv, Nat.reduceMod, Nat.reduceAdd, Nat.reduceSub, Nat.reduceEqDiff, Nat.reduceLeDiff, Nat.reduceLT, Nat.reduceMul, reduceIte, Nat.reducePow, Int.reduceEq]); exact zL); rfl) | refine zkc ?_ | apply RKg.tt | apply RKg.ff | refine zkd ?_ | refine zke ?_ | refine zkf ?_ | (refine RKg.split (fun h => ?_) (fun h => ?_) <;> (try rw [h]) <;> (replace h := zB h) <;> (try (exfalso; first | exact h | omega))) | apply RK.nil | apply V.sq | apply V.bl | apply V.sc | apply V.skip | apply V.label | apply V.ret | apply V.exit | apply SeqQ.normal | apply SeqQ.ret | apply SeqQ.exit | apply BlockQ.normal | apply BlockQ.ret | apply BlockQ.here | refine zbt ?_ | apply LoopS.ret | apply LoopS.exit | apply LoopF.ret | apply LoopF.exit | apply V.regK | refine zvd ?_ | refine zve ?_ | (refine zvf (fun h => ?_) (fun h => ?_) <;> (replace h := zB h) <;> (try (exfalso; first | exact h | omega))) | (refine zfc Tryz.results17 ?_; (try dsimp only)))
                all_goals first
                  | (exfalso; exact absurd (hB1.symm.trans ‹_›) (by decide))
                  | (exfalso; omega)
                  | skip
                all_goals
                  refine LoopF.again (s.extract m s.size).size (by rfl) (by omega) ⟨_, _, rfl, rfl, by omega, fun z => ?_⟩
                  rw [← hiff z, hW, hx1, List.mem_cons]
                  exact ⟨.inr, fun y => y.elim (fun e => absurd (ba_list.2 (by rw [hx0]; exact e.symm)) hk) id⟩
    · repeat' (first | refine zka ?_ | refine zkb ?_ | (apply RKp.op; ((try simp (disch := (first | omega | exact zX | exact zO | fail)) only [lnY, go_sem, Nat.reduceDiv, Nat.reduceMod, Nat.reduceAdd, Nat.reduceSub, Nat.reduceEqDiff, Nat.reduceLeDiff, Nat.reduceLT, Nat.reduceMul, reduceIte, Nat.reducePow, Int.reduceEq]); exact zL); rfl) | refine zkc ?_ | apply RKg.tt | apply RKg.ff | refine zkd ?_ | refine zke ?_ | refine zkf ?_ | (refine RKg.split (fun h => ?_) (fun h => ?_) <;> (try rw [h]) <;> (replace h := zB h) <;> (try (exfalso; first | exact h | omega))) | apply RK.nil | apply V.sq | apply V.bl | apply V.sc | apply V.skip | apply V.label | apply V.ret | apply V.exit | apply SeqQ.normal | apply SeqQ.ret | apply SeqQ.exit | apply BlockQ.normal | apply BlockQ.ret | apply BlockQ.here | refine zbt ?_ | apply LoopS.ret | apply LoopS.exit | apply LoopF.ret | apply LoopF.exit | apply V.regK | refine zvd ?_ | refine zve ?_ | (refine zvf (fun h => ?_) (fun h => ?_) <;> (replace h := zB h) <;> (try (exfalso; first | exact h | omega))) | (refine zfc Tryz.results17 ?_; (try dsimp only)))
      all_goals first
        | (exfalso; omega)
        | skip
      rw [refD_no fun j hj => hno j (by omega)]; rfl
theorem refDeedV_run (key : ByteArray) : CallRo (ELo oc) ys lo 17 [.v (.int .i64 1), .v (.string key)] H (.v (.int .i64 (refD viL key : Nat))) := by
  refine WC.pureR rfl fun lo' H' hh => ?_
  have hlo := lo_two hh
  refine zvin Tryz.func17 Tryz.ntmps17 ?_
  repeat' (first | refine zka ?_ | refine zkb ?_ | (apply RKp.op; ((try simp (disch := (first | omega | exact zX | exact zO | fail)) only [go_sem, Nat.reduceDiv, Nat.reduceMod, Nat.reduceAdd, Nat.reduceSub, Nat.reduceEqDiff, Nat.reduceLeDiff, Nat.reduceLT, Nat.reduceMul, reduceIte, Nat.reducePow, Int.reduceEq]); exact zL); rfl) | refine zkc ?_ | apply RKg.tt | apply RKg.ff | refine zkd ?_ | refine zke ?_ | refine zkf ?_ | (refine RKg.split (fun h => ?_) (fun h => ?_) <;> (try rw [h]) <;> (replace h := zB h) <;> (try (exfalso; first | exact h | omega))) | apply RK.nil | apply V.sq | apply V.bl | apply V.sc | apply V.skip | apply V.label | apply V.ret | apply V.exit | apply SeqQ.normal | apply SeqQ.ret | apply SeqQ.exit | apply BlockQ.normal | apply BlockQ.ret | apply BlockQ.here | refine zbt ?_ | apply LoopS.ret | apply LoopS.exit | apply LoopF.ret | apply LoopF.exit | apply V.regK | refine zvd ?_ | refine zve ?_ | (refine zvf (fun h => ?_) (fun h => ?_) <;> (replace h := zB h) <;> (try (exfalso; first | exact h | omega))) | (refine zfc Tryz.results17 ?_; (try dsimp only)))
  rw [vi_lit, em_lit]
  generalize hHs : (H'.push ⟨9, 1, 0, strE viL, none⟩).push ⟨9, 1, 0, strE emL, none⟩ = Hs
  generalize hy : AV.os H'.next 0 0 20 = y
  obtain ⟨L, hLe⟩ : ∃ L, L = viL := ⟨_, rfl⟩
  have hy1 : SlH Hs 1 y (strE L) := .inr ⟨H'.next, 0, 0, ⟨9, 1, 0, strE viL, none⟩, by rw [← hy, hLe]; rfl, by rw [← hHs]; (first | omega | (simp only [next_push, next_set, next_empty]; done) | (simp only [next_push, next_set, next_empty]; omega)), by rw [← hHs]; simp (disch := (first | omega | exact zX | fail)) only [get_set, get_push, next_push, next_set, if_pos', if_neg', if_true, if_false, reduceIte], rfl, rfl, rfl, by rw [hLe]; decide, by rw [hLe]; rfl⟩
  rw [← hLe]
  clear hHs hy
  have hL : L.length = 20 := by rw [hLe]; rfl
  have hsz : ∀ j, j < 20 → (L.getD j ByteArray.empty).size ≤ 20 := by rw [hLe]; decide
  clear hLe
  have lnY : primL lo' Hs (builtinA (ELo oc) .len #[38] 3 [y]) = some (.v (.int .i64 20), Hs, rdTr y) := by
    have := len_SlH (ELo oc) lo' 38 3 hy1 (by kernel_rfl)
    rw [strE_len, hL] at this; exact this
  have ixY : ∀ (z : Int), 0 ≤ z → z < 20 → primL lo' Hs (indexAddrA (ELo oc) 38 y (.v (.int .i64 z))) = some (ixA y (strE L) z.toNat, Hs, rdTr y) := fun z z0 z1 => ix_SlH (ELo oc) lo' 38 .i64 z hy1 (by kernel_rfl) z0 (by rw [strE_len, hL]; exact z1)
  have ldY : ∀ j, j < 20 → primL lo' Hs (loadA (ELo oc) 9 (ixA y (strE L) j)) = some (.v (.string (L.getD j ByteArray.empty)), Hs, rdTr y) := fun j hj => by
    rw [load_SlH (ELo oc) lo' 9 j hy1 (by rw [strE_len, hL]; exact hj), nth_strE L j (by omega)]; rfl
  apply V.lpF [8, 4, 9, 10, 17, 18, 19, 20, 21, 22, 23, 24, 25, 26, 27, 28, 29, 30, 31, 32, 33, 34, 35, 36, 37, 38, 39, 40, 41, 42, 43, 44, 45, 46, 47, 48, 49, 50, 51, 52, 53, 54, 55, 56, 57, 58, 59, 60, 61, 62, 63, 64, 65] (fun k xs => ∃ (i : Nat) (g : _), xs = .v (.int .i64 i) :: g ∧ k = 20 - i ∧ 1 ≤ i ∧ i ≤ 20 ∧ ∀ j, j < i → ¬ hitP L key j) 19
  focus (intro xs; simp only [putMany, set2, Nat.reduceAdd, Nat.reduceDiv, Nat.reduceMod, nth_zero, nth_succ, List.set_cons_zero, List.set_cons_succ]; rfl)
  focus (first | rfl | simp only [readMany, nth_zero, nth_succ, Nat.reduceDiv, Nat.reduceMod])
  · exact ⟨1, _, rfl, rfl, Nat.le_refl _, by omega, fun j h z => by have := z.1; omega⟩
  · rintro k xs ⟨i, g, rfl, rfl, hi1, hi2, hno⟩
    by_cases hlt : i < 20
    · have hs20 := hsz i hlt
      repeat' (first | refine zka ?_ | refine zkb ?_ | (apply RKp.op; ((try simp (disch := (first | omega | exact zX | exact zO | fail)) only [lnY, ixY, ldY, Int.toNat_natCast, go_sem, Nat.reduceDiv, Nat.reduceMod, Nat.reduceAdd, Nat.reduceSub, Nat.reduceEqDiff, Nat.reduceLeDiff, Nat.reduceLT, Nat.reduceMul, reduceIte, Nat.reducePow, Int.reduceEq]); exact zL); rfl) | refine zkc ?_ | apply RKg.tt | apply RKg.ff | refine zkd ?_ | refine zke ?_ | refine zkf ?_ | (refine RKg.split (fun h => ?_) (fun h => ?_) <;> (try rw [h]) <;> (replace h := zB h) <;> (try (exfalso; first | exact h | omega))) | apply RK.nil | apply V.sq | apply V.bl | apply V.sc | apply V.skip | apply V.label | apply V.ret | apply V.exit | apply SeqQ.normal | apply SeqQ.ret | apply SeqQ.exit | apply BlockQ.normal | apply BlockQ.ret | apply BlockQ.here | refine zbt ?_ | apply LoopS.ret | apply LoopS.exit | apply LoopF.ret | apply LoopF.exit | apply V.regK | refine zvd ?_ | refine zve ?_ | (refine zvf (fun h => ?_) (fun h => ?_) <;> (replace h := zB h) <;> (try (exfalso; first | exact h | omega))) | (refine zfc Tryz.results17 ?_; (try dsimp only)))
      apply V.lpF [9, 4, 10, 35, 36, 37, 38, 39, 40, 41, 42, 43, 44, 45, 46, 47, 48, 49, 50, 51, 52, 53, 54, 55, 56, 57, 58, 59, 60, 61, 62, 63, 64, 65] (fun k xs => ∃ (s : ByteArray) (g : _), xs = .v (.string s) :: g ∧ k = s.size ∧ s.size ≤ 20 ∧ (key.size ≠ 0 → (key.data.toList ∈ wds s.data.toList ↔ key.data.toList ∈ wds (L.getD i ByteArray.empty).data.toList))) (L.getD i ByteArray.empty).size
      focus (intro xs; simp only [putMany, set2, Nat.reduceAdd, Nat.reduceDiv, Nat.reduceMod, nth_zero, nth_succ, List.set_cons_zero, List.set_cons_succ]; rfl)
      focus (first | rfl | simp only [readMany, nth_zero, nth_succ, Nat.reduceDiv, Nat.reduceMod])
      · exact ⟨_, _, rfl, rfl, hs20, fun _ => Iff.rfl⟩
      · rintro k xs ⟨s, g, rfl, rfl, hs, hiff⟩
        have eS : s.size = s.data.toList.length := rfl
        have ixS : ∀ G (z : Int), 0 ≤ z → z < s.size → primL lo' G (indexA (ELo oc) 9 (.v (.string s)) (.v (.int .i64 z))) = some (.v (.int .u8 ((s.data.toList.getD z.toNat 0).toNat : Int)), G, ⟨0, 0, 0⟩) := fun G z z0 z1 => by
          have := index_strD (ELo oc) lo' G 9 s .i64 z.toNat (by kernel_rfl) (decide_eq_true (by omega))
          rw [Int.toNat_of_nonneg z0] at this; exact this
        by_cases hse : s = ByteArray.empty
        · have hno2 : ¬ hitP L key i := fun z => by
            have := (hiff z.2.1).2 z.2.2
            rw [hse] at this
            exact absurd this List.not_mem_nil
          have hB : (s.toList == (⟨#[]⟩ : ByteArray).toList) = true := by rw [ba_eq]; exact decide_eq_true hse
          repeat' (first | refine zka ?_ | refine zkb ?_ | (apply RKp.op; ((try simp (disch := (first | omega | exact zX | exact zO | fail)) only [go_sem, Nat.reduceDiv, Nat.reduceMod, Nat.reduceAdd, Nat.reduceSub, Nat.reduceEqDiff, Nat.reduceLeDiff, Nat.reduceLT, Nat.reduceMul, reduceIte, Nat.reducePow, Int.reduceEq]); exact zL); rfl) | refine zkc ?_ | apply RKg.tt | apply RKg.ff | refine zkd ?_ | refine zke ?_ | refine zkf ?_ | (refine RKg.split (fun h => ?_) (fun h => ?_) <;> (try rw [h]) <;> (replace h := zB h) <;> (try (exfalso; first | exact h | omega))) | apply RK.nil | apply V.sq | apply V.bl | apply V.sc | apply V.skip | apply V.label | apply V.ret | apply V.exit | apply SeqQ.normal | apply SeqQ.ret | apply SeqQ.exit | apply BlockQ.normal | apply BlockQ.ret | apply BlockQ.here | refine zbt ?_ | apply LoopS.ret | apply LoopS.exit | apply LoopF.ret | apply LoopF.exit | apply V.regK | refine zvd ?_ | refine zve ?_ | (refine zvf (fun h => ?_) (fun h => ?_) <;> (replace h := zB h) <;> (try (exfalso; first | exact h | omega))) | (refine zfc Tryz.results17 ?_; (try dsimp only)))
          all_goals first
            | (exfalso; exact absurd (hB.symm.trans ‹_›) (by decide))
            | skip
          refine LoopF.again (20 - (i + 1)) (by rfl) (by omega) ⟨i + 1, _, rfl, rfl, by omega, by omega, fun j hj => ?_⟩
          rcases Nat.lt_or_ge j i with z | z
          · exact hno j z
          · have : j = i := by omega
            subst this; exact hno2
        · have hsz2 : s.size ≠ 0 := fun z => hse (ByteArray.ext (Array.eq_empty_of_size_eq_zero z))
          have hB : (s.toList == (⟨#[]⟩ : ByteArray).toList) = false := by rw [ba_eq]; exact decide_eq_false hse
          have hl0 : s.data.toList ≠ [] := fun z => hsz2 (by rw [eS, z]; rfl)
          repeat' (first | refine zka ?_ | refine zkb ?_ | (apply RKp.op; ((try simp (disch := (first | omega | exact zX | exact zO | fail)) only [go_sem, Nat.reduceDiv, Nat.reduceMod, Nat.reduceAdd, Nat.reduceSub, Nat.reduceEqDiff, Nat.reduceLeDiff, Nat.reduceLT, Nat.reduceMul, reduceIte, Nat.reducePow, Int.reduceEq]); exact zL); rfl) | refine zkc ?_ | apply RKg.tt | apply RKg.ff | refine zkd ?_ | refine zke ?_ | refine zkf ?_ | (refine RKg.split (fun h => ?_) (fun h => ?_) <;> (try rw [h]) <;> (replace h := zB h) <;> (try (exfalso; first | exact h | omega))) | apply RK.nil | apply V.sq | apply V.bl | apply V.sc | apply V.skip | apply V.label | apply V.ret | apply V.exit | apply SeqQ.normal | apply SeqQ.ret | apply SeqQ.exit | apply BlockQ.normal | apply BlockQ.ret | apply BlockQ.here | refine zbt ?_ | apply LoopS.ret | apply LoopS.exit | apply LoopF.ret | apply LoopF.exit | apply V.regK | refine zvd ?_ | refine zve ?_ | (refine zvf (fun h => ?_) (fun h => ?_) <;> (replace h := zB h) <;> (try (exfalso; first | exact h | omega))) | (refine zfc Tryz.results17 ?_; (try dsimp only)))
          all_goals first
            | (exfalso; exact absurd (hB.symm.trans ‹_›) (by decide))
            | skip
          apply V.lpF [10, 37, 38, 39, 40, 41, 42, 43, 44, 45, 46, 47, 48] (fun k xs => ∃ (q : Nat) (g : _), xs = .v (.int .i64 q) :: g ∧ k = s.size - q ∧ q ≤ s.size ∧ ∀ j, j < q → s.data.toList.getD j 0 ≠ 32) s.size
          focus (intro xs; simp only [putMany, set2, Nat.reduceAdd, Nat.reduceDiv, Nat.reduceMod, nth_zero, nth_succ, List.set_cons_zero, List.set_cons_succ]; rfl)
          focus (first | rfl | simp only [readMany, nth_zero, nth_succ, Nat.reduceDiv, Nat.reduceMod])
          · exact ⟨0, _, rfl, rfl, Nat.zero_le _, fun j h => absurd h (Nat.not_lt_zero _)⟩
          · rintro k xs ⟨q, g, rfl, rfl, hq, hn⟩
            have slS1 : sliceA (ELo oc) 9 (.v (.string s)) none (some (.v (.int .i64 (q : Int)))) none = .val (.v (.string (s.extract 0 q))) := slice_str (ELo oc) 9 s none _ (by kernel_rfl) (bound_none 0) (by rw [bound_some .i64 _ _ (Int.natCast_nonneg q), Int.toNat_natCast]) (Nat.zero_le _) hq
            by_cases hgo : q < s.size ∧ s.data.toList.getD q 0 ≠ 32
            · have hb : ¬ ((s.data.toList.getD q 0).toNat : Int) = 32 := fun z => hgo.2 (UInt8.toNat_inj.1 (by have h32 : (32 : UInt8).toNat = 32 := rfl; omega))
              repeat' (first | refine zka ?_ | refine zkb ?_ | (apply RKp.op; ((try simp (disch := (first | omega | exact zX | exact zO | fail)) only [ixS, hb, Int.toNat_natCast, go_sem, Nat.reduceDiv, Nat.reduceMod, Nat.reduceAdd, Nat.reduceSub, Nat.reduceEqDiff, Nat.reduceLeDiff, Nat.reduceLT, Nat.reduceMul, reduceIte, Nat.reducePow, Int.reduceEq]); exact zL); rfl) | refine zkc ?_ | apply RKg.tt | apply RKg.ff | refine zkd ?_ | refine zke ?_ | refine zkf ?_ | (refine RKg.split (fun h => ?_) (fun h => ?_) <;> (try rw [h]) <;> (replace h := zB h) <;> (try (exfalso; first | exact h | omega))) | apply RK.nil | apply V.sq | apply V.bl | apply V.sc | apply V.skip | apply V.label | apply V.ret | apply V.exit | apply SeqQ.normal | apply SeqQ.ret | apply SeqQ.exit | apply BlockQ.normal | apply BlockQ.ret | apply BlockQ.here | refine zbt ?_ | apply LoopS.ret | apply LoopS.exit | apply LoopF.ret | apply LoopF.exit | apply V.regK | refine zvd ?_ | refine zve ?_ | (refine zvf (fun h => ?_) (fun h => ?_) <;> (replace h := zB h) <;> (try (exfalso; first | exact h | omega))) | (refine zfc Tryz.results17 ?_; (try dsimp only)))
              all_goals first
                | (exfalso; omega)
                | skip
              refine LoopF.again (s.size - (q + 1)) (by rfl) (by omega) ⟨q + 1, _, rfl, rfl, by omega, fun j hj => ?_⟩
              rcases Nat.lt_or_ge j q with z | z
              · exact hn j z
              · have : j = q := by omega
                subst this; exact hgo.2
            · have hst : q = s.data.toList.length ∨ s.data.toList.getD q 0 = 32 := by
                by_cases z : q < s.size
                · refine .inr ?_
                  exact Classical.byContradiction fun y => hgo ⟨z, y⟩
                · exact .inl (by omega)
              have hst3 : ¬ (q < s.size) ∨ ((s.data.toList.getD q 0).toNat : Int) = 32 := by
                rcases hst with z | z
                · exact .inl (by omega)
                · exact .inr (by rw [z]; rfl)
              have hW := wds_step hl0 (by omega) hn hst
              have hx0 : (s.extract 0 q).data.toList = s.data.toList.take q := by rw [ext_list, List.drop_zero, Nat.sub_zero]
              obtain ⟨m, hm⟩ : ∃ m : Nat, m = min (q + 1) s.size := ⟨_, rfl⟩
              have hmI : min ((q : Int) + 1) (s.size : Int) = (m : Int) := by omega
              have slS2 : sliceA (ELo oc) 9 (.v (.string s)) (some (.v (.int .i64 (m : Int)))) none none = .val (.v (.string (s.extract m s.size))) := slice_str (ELo oc) 9 s _ none (by kernel_rfl) (by rw [bound_some .i64 _ _ (Int.natCast_nonneg m), Int.toNat_natCast]) (bound_none _) (by omega) (Nat.le_refl _)
              have hx1 : wds (s.extract m s.size).data.toList = wds (s.data.toList.drop (q + 1)) := by
                rw [ext_list]
                by_cases z : q < s.size
                · have : m = q + 1 := by omega
                  rw [this, List.take_of_length_le (by rw [List.length_drop]; omega)]
                · have : m = s.size := by omega
                  rw [this, Nat.sub_self, List.take_zero, List.drop_eq_nil_of_le (by omega)]
              have hx2 : (s.extract m s.size).size = s.size - m := extract_size s m s.size (by omega) (Nat.le_refl _)
              by_cases hk : s.extract 0 q = key
              · have hkl : key.data.toList = s.data.toList.take q := by rw [← hk, hx0]
                have hB1 : ((s.extract 0 q).toList == key.toList) = true := by rw [ba_eq]; exact decide_eq_true hk
                by_cases hz : key = ByteArray.empty
                · have hz0 : ¬ key.size ≠ 0 := fun z => z (by rw [hz]; rfl)
                  have hB2 : (key.toList == (⟨#[]⟩ : ByteArray).toList) = true := by rw [ba_eq]; exact decide_eq_true hz
                  repeat' (first | refine zka ?_ | refine zkb ?_ | (apply RKp.op; ((try simp (disch := (first | omega | exact zX | exact zO | fail)) only [ixS, slS1, slS2, hmI, Int.toNat_natCast, go_sem, Nat.reduceDiv, Nat.reduceMod, Nat.reduceAdd, Nat.reduceSub, Nat.reduceEqDiff, Nat.reduceLeDiff, Nat.reduceLT, Nat.reduceMul, reduceIte, Nat.reducePow, Int.reduceEq]); exact zL); rfl) | refine zkc ?_ | apply RKg.tt | apply RKg.ff | refine zkd ?_ | refine zke ?_ | refine zkf ?_ | (refine RKg.split (fun h => ?_) (fun h => ?_) <;> (try rw [h]) <;> (replace h := zB h) <;> (try (exfalso; first | exact h | omega))) | apply RK.nil | apply V.sq | apply V.bl | apply V.sc | apply V.skip | apply V.label | apply V.ret | apply V.exit | apply SeqQ.normal | apply SeqQ.ret | apply SeqQ.exit | apply BlockQ.normal | apply BlockQ.ret | apply BlockQ.here | refine zbt ?_ | apply LoopS.ret | apply LoopS.exit | apply LoopF.ret | apply LoopF.exit | apply V.regK | refine zvd ?_ | refine zve ?_ | (refine zvf (fun h => ?_) (fun h => ?_) <;> (replace h := zB h) <;> (try (exfalso; first | exact h | omega))) | (refine zfc Tryz.results17 ?_; (try dsimp only)))
                  all_goals first
                    | (exfalso; exact absurd (hB1.symm.trans ‹_›) (by decide))
                    | (exfalso; exact absurd (hB2.symm.trans ‹_›) (by decide))
                    | (exfalso; omega)
                    | skip
                  all_goals exact LoopF.again (s.extract m s.size).size (by rfl) (by omega) ⟨_, _, rfl, rfl, by omega, fun z => absurd z hz0⟩
                · have hz0 : key.size ≠ 0 := fun z => hz (ByteArray.ext (Array.eq_empty_of_size_eq_zero z))
                  have hB2 : (key.toList == (⟨#[]⟩ : ByteArray).toList) = false := by rw [ba_eq]; exact decide_eq_false hz
                  have hit : hitP L key i := ⟨hi1, hz0, (hiff hz0).1 (by rw [hW, hkl]; exact List.mem_cons_self)⟩
                  repeat' (first | refine zka ?_ | refine zkb ?_ | (apply RKp.op; ((try simp (disch := (first | omega | exact zX | exact zO | fail)) only [ixS, slS1, slS2, hmI, Int.toNat_natCast, go_sem, Nat.reduceDiv, Nat.reduceMod, Nat.reduceAdd, Nat.reduceSub, Nat.reduceEqDiff, Nat.reduceLeDiff, Nat.reduceLT, Nat.reduceMul, reduceIte, Nat.reducePow, Int.reduceEq]); exact zL); rfl) | refine zkc ?_ | apply RKg.tt | apply RKg.ff | refine zkd ?_ | refine zke ?_ | refine zkf ?_ | (refine RKg.split (fun h => ?_) (fun h => ?_) <;> (try rw [h]) <;> (replace h := zB h) <;> (try (exfalso; first | exact h | omega))) | apply RK.nil | apply V.sq | apply V.bl | apply V.sc | apply V.skip | apply V.label | apply V.ret | apply V.exit | apply SeqQ.normal | apply SeqQ.ret | apply SeqQ.exit | apply BlockQ.normal | apply BlockQ.ret | apply BlockQ.here | refine zbt ?_ | apply LoopS.ret | apply LoopS.exit | apply LoopF.ret | apply LoopF.exit | apply V.regK | refine zvd ?_ | refine zve ?_ | (refine zvf (fun h => ?_) (fun h => ?_) <;> (replace h := zB h) <;> (try (exfalso; first | exact h | omega))) | (refine zfc Tryz.results17 ?_; (try dsimp only)))
                  all_goals first
                    | (exfalso; exact absurd (hB1.symm.trans ‹_›) (by decide))
                    | (exfalso; exact absurd (hB2.symm.trans ‹_›) (by decide))
                    | (exfalso; omega)
                    | skip
                  all_goals
                    rw [refD_hit hlt hit hno]; rfl
              · have hB1 : ((s.extract 0 q).toList == key.toList) = false := by rw [ba_eq]; exact decide_eq_false hk
                repeat' (first | refine zka ?_ | refine zkb ?_ | (apply RKp.op; ((try simp (disch := (first | omega | exact zX | exact zO | fail)) only [ixS, slS1, slS2, hmI, Int.toNat_natCast, go_sem, Nat.reduceDiv, Nat.reduceMod, Nat.reduceAdd, Nat.reduceSub, Nat.reduceEqDiff, Nat.reduceLeDiff, Nat.reduceLT, Nat.reduceMul, reduceIte, Nat.reducePow, Int.reduceEq]); exact zL); rfl) | refine zkc ?_ | apply RKg.tt | apply RKg.ff | refine zkd ?_ | refine zke ?_ | refine zkf ?_ | (refine RKg.split (fun h => ?_) (fun h => ?_) <;> (try rw [h]) <;> (replace h := zB h) <;> (try (exfalso; first | exact h | omega))) | apply RK.nil | apply V.sq | apply V.bl | apply V.sc | apply V.skip | apply V.label | apply V.ret | apply V.exit | apply SeqQ.normal | apply SeqQ.ret | apply SeqQ.exit | apply BlockQ.normal | apply BlockQ.ret | apply BlockQ.here | refine zbt ?_ | apply LoopS.ret | apply LoopS.exit | apply LoopF.ret | apply LoopF.exit | apply V.regK | refine zvd ?_ | refine zve ?_ | (refine zvf (fun h => ?_) (fun h => ?_) <;> (replace h := zB h) <;> (try (exfalso; first | exact h | omega))) | (refine zfc Tryz.results17 ?_; (try dsimp only)))
                all_goals first
                  | (exfalso; exact absurd (hB1.symm.trans ‹_›) (by decide))
                  | (exfalso; omega)
                  | skip
                all_goals
                  refine LoopF.again (s.extract m s.size).size (by rfl) (by omega) ⟨_, _, rfl, rfl, by omega, fun z => ?_⟩
                  rw [← hiff z, hW, hx1, List.mem_cons]
                  exact ⟨.inr, fun y => y.elim (fun e => absurd (ba_list.2 (by rw [hx0]; exact e.symm)) hk) id⟩
    · repeat' (first | refine zka ?_ | refine zkb ?_ | (apply RKp.op; ((try simp (disch := (first | omega | exact zX | exact zO | fail)) only [lnY, go_sem, Nat.reduceDiv, Nat.reduceMod, Nat.reduceAdd, Nat.reduceSub, Nat.reduceEqDiff, Nat.reduceLeDiff, Nat.reduceLT, Nat.reduceMul, reduceIte, Nat.reducePow, Int.reduceEq]); exact zL); rfl) | refine zkc ?_ | apply RKg.tt | apply RKg.ff | refine zkd ?_ | refine zke ?_ | refine zkf ?_ | (refine RKg.split (fun h => ?_) (fun h => ?_) <;> (try rw [h]) <;> (replace h := zB h) <;> (try (exfalso; first | exact h | omega))) | apply RK.nil | apply V.sq | apply V.bl | apply V.sc | apply V.skip | apply V.label | apply V.ret | apply V.exit | apply SeqQ.normal | apply SeqQ.ret | apply SeqQ.exit | apply BlockQ.normal | apply BlockQ.ret | apply BlockQ.here | refine zbt ?_ | apply LoopS.ret | apply LoopS.exit | apply LoopF.ret | apply LoopF.exit | apply V.regK | refine zvd ?_ | refine zve ?_ | (refine zvf (fun h => ?_) (fun h => ?_) <;> (replace h := zB h) <;> (try (exfalso; first | exact h | omega))) | (refine zfc Tryz.results17 ?_; (try dsimp only)))
      all_goals first
        | (exfalso; omega)
        | skip
      rw [refD_no fun j hj => hno j (by omega)]; rfl
theorem refDeedN_run (t : Int) (h1 : t ≠ 1) (h2 : t ≠ 2) (key : ByteArray) : CallRo (ELo oc) ys lo 17 [.v (.int .i64 t), .v (.string key)] H (.v (.int .i64 0)) := by
  refine WC.pureR rfl fun lo' H' hh => ?_
  have hlo := lo_two hh
  refine zvin Tryz.func17 Tryz.ntmps17 ?_
  repeat' (first | refine zka ?_ | refine zkb ?_ | (apply RKp.op; ((try simp (disch := (first | omega | exact zX | exact zO | fail)) only [go_sem, Nat.reduceDiv, Nat.reduceMod, Nat.reduceAdd, Nat.reduceSub, Nat.reduceEqDiff, Nat.reduceLeDiff, Nat.reduceLT, Nat.reduceMul, reduceIte, Nat.reducePow, Int.reduceEq]); exact zL); rfl) | refine zkc ?_ | apply RKg.tt | apply RKg.ff | refine zkd ?_ | refine zke ?_ | refine zkf ?_ | (refine RKg.split (fun h => ?_) (fun h => ?_) <;> (try rw [h]) <;> (replace h := zB h) <;> (try (exfalso; first | exact h | omega))) | apply RK.nil | apply V.sq | apply V.bl | apply V.sc | apply V.skip | apply V.label | apply V.ret | apply V.exit | apply SeqQ.normal | apply SeqQ.ret | apply SeqQ.exit | apply BlockQ.normal | apply BlockQ.ret | apply BlockQ.here | refine zbt ?_ | apply LoopS.ret | apply LoopS.exit | apply LoopF.ret | apply LoopF.exit | apply V.regK | refine zvd ?_ | refine zve ?_ | (refine zvf (fun h => ?_) (fun h => ?_) <;> (replace h := zB h) <;> (try (exfalso; first | exact h | omega))) | (refine zfc Tryz.results17 ?_; (try dsimp only)))
  apply V.lpF [8, 4, 9, 10, 17, 18, 19, 20, 21, 22, 23, 24, 25, 26, 27, 28, 29, 30, 31, 32, 33, 34, 35, 36, 37, 38, 39, 40, 41, 42, 43, 44, 45, 46, 47, 48, 49, 50, 51, 52, 53, 54, 55, 56, 57, 58, 59, 60, 61, 62, 63, 64, 65] (fun k xs => ∃ (g : _), xs = .v (.int .i64 1) :: g ∧ k = 0) 0
  focus (intro xs; simp only [putMany, set2, Nat.reduceAdd, Nat.reduceDiv, Nat.reduceMod, nth_zero, nth_succ, List.set_cons_zero, List.set_cons_succ]; rfl)
  focus (first | rfl | simp only [readMany, nth_zero, nth_succ, Nat.reduceDiv, Nat.reduceMod])
  · exact ⟨_, rfl, rfl⟩
  · rintro k xs ⟨g, rfl, rfl⟩
    repeat' (first | refine zka ?_ | refine zkb ?_ | (apply RKp.op; ((try simp (disch := (first | omega | exact zX | exact zO | fail)) only [go_sem, Nat.reduceDiv, Nat.reduceMod, Nat.reduceAdd, Nat.reduceSub, Nat.reduceEqDiff, Nat.reduceLeDiff, Nat.reduceLT, Nat.reduceMul, reduceIte, Nat.reducePow, Int.reduceEq]); exact zL); rfl) | refine zkc ?_ | apply RKg.tt | apply RKg.ff | refine zkd ?_ | refine zke ?_ | refine zkf ?_ | (refine RKg.split (fun h => ?_) (fun h => ?_) <;> (try rw [h]) <;> (replace h := zB h) <;> (try (exfalso; first | exact h | omega))) | apply RK.nil | apply V.sq | apply V.bl | apply V.sc | apply V.skip | apply V.label | apply V.ret | apply V.exit | apply SeqQ.normal | apply SeqQ.ret | apply SeqQ.exit | apply BlockQ.normal | apply BlockQ.ret | apply BlockQ.here | refine zbt ?_ | apply LoopS.ret | apply LoopS.exit | apply LoopF.ret | apply LoopF.exit | apply V.regK | refine zvd ?_ | refine zve ?_ | (refine zvf (fun h => ?_) (fun h => ?_) <;> (replace h := zB h) <;> (try (exfalso; first | exact h | omega))) | (refine zfc Tryz.results17 ?_; (try dsimp only)))
    all_goals first
      | (exfalso; omega)
      | rfl
end
end Go.Am
