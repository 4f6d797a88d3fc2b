/- Oracles out of the model: keys' deeds, names. -/
import Derived.Test.YtpaakagaiogknaaGreatKwN
import Derived.Test.YtpaakagaiogknaaGreatAmH
set_option linter.all false
set_option linter.deprecated false
set_option linter.all false
namespace Go.Am
open Go.Proofs Go.RowKit Go.Maps Go.Sort
set_option maxRecDepth 100000
theorem fence_wide {F : Fence} (h : FenceOK false F) : F = Fence.wide := by
  obtain ⟨fn, d, a, r⟩ := F
  obtain ⟨h1, h2, h3, h4⟩ := h
  have e : fn = fun _ => True := funext fun f => propext ⟨fun _ => trivial, fun _ => h1 f⟩
  subst e
  simp only at h2 h3 h4
  rw [h2, h4, h3 trivial]; rfl
/-- What the model's walk says of a call makes an oracle. -/
theorem orc_of_calls {P : Program} {f : FuncId} {args : List AV} {x : AV} (hb : ∃ fn c, P.funcs[f]? = some fn ∧ fn.body = some c)
    (h : ∀ (C : Ctx) (vs : Array Value), Good C → ARel C args vs → Calls P f vs C.w fun e w' => ∃ v, e = .returned v ∧ RowKit.Below C.w.heap.size C.w w' ∧ VR (C.grow w') x v) : OrcOK P f args x where
  body := hb
  run := fun C vs g hA F hF n => by
    rw [fence_wide hF]
    refine callsIn_wide.2 ((h C vs g hA).mono ?_)
    rintro e w' ⟨v, rfl, hbl, hv⟩
    refine ⟨v, rfl, C.grow w', rfl, fun lo ys H _ => ?_, hv⟩
    have hle := Ctx.grow_le g w' hbl.os hbl.tape hbl.output hbl.size hbl.block
    have hg := Ctx.grow_good g w' hbl.os hbl.tape hbl.output hbl.size hbl.block
    exact ⟨hle, hg, rfl, fun n hn => by rcases hn with hn | hn <;> simp at hn, fun n _ _ => ⟨rfl, Iff.rfl⟩, fun hn => by simp at hn, fun _ => rfl, fun n _ => rfl, fun k _ _ => rfl⟩
theorem args1 {C : Ctx} {a : Value} {vs : Array Value} (h : ARel C [.v a] vs) : vs = #[a] := by
  obtain ⟨h1, h2⟩ := h
  have h0 := (h2 0 (by simp)).v_inv.1
  apply Array.ext
  · simpa using h1
  · intro i k1 k2
    have : i = 0 := by simp at k2; omega
    subst this
    simpa [Array.getD_eq_getD_getElem?, k1] using h0
theorem args2 {C : Ctx} {a b : Value} {vs : Array Value} (h : ARel C [.v a, .v b] vs) : vs = #[a, b] := by
  obtain ⟨h1, h2⟩ := h
  have h0 := (h2 0 (by simp)).v_inv.1
  have h3 := (h2 1 (by simp)).v_inv.1
  have h1' : vs.size = 2 := by simpa using h1
  apply Array.ext
  · simpa using h1'
  · intro i k1 k2
    have : i = 0 ∨ i = 1 := by simp at k2; omega
    rcases this with rfl | rfl
    · simpa [Array.getD_eq_getD_getElem?, h1'] using h0
    · simpa [Array.getD_eq_getD_getElem?, h1'] using h3
/-- A key's deed. -/
def litI : DataW Unit → Int
  | .lit (.int .i64 c) => c
  | _ => 0
def deedT (t : Int) (s : ByteArray) : Int := if t = 1 then litI (atT (putsD (.map []) viT) s) else if t = 2 then litI (atT (putsD (.map []) emT) s) else 0
theorem deed_orc (t : Int) (s : ByteArray) (hs : s.size ≤ maxLen) : OrcOK Tryz.prog 16 [.v (.int .i64 t), .v (.string s)] (.v (.int .i64 (deedT t s))) := by
  refine orc_of_calls ⟨_, _, Tryz.func16, rfl⟩ fun C vs g hA => ?_
  rw [args2 hA]
  by_cases h1 : t = 1
  · subst h1
    refine (Deed_vi s hs C.w).mono ?_
    rintro e w' ⟨c, rfl, hat, hb⟩
    have e1 : deedT 1 s = c := by unfold deedT; rw [if_pos rfl, hat]; rfl
    rw [e1]
    exact ⟨_, rfl, hb, .fr (.v rfl)⟩
  · by_cases h2 : t = 2
    · subst h2
      refine (Deed_emacs s hs C.w).mono ?_
      rintro e w' ⟨c, rfl, hat, hb⟩
      have e1 : deedT 2 s = c := by unfold deedT; rw [if_neg (by decide), if_pos rfl, hat]; rfl
      rw [e1]
      exact ⟨_, rfl, hb, .fr (.v rfl)⟩
    · refine (Deed_none t h1 h2 s hs C.w).mono ?_
      rintro e w' ⟨rfl, hb⟩
      have e1 : deedT t s = 0 := by unfold deedT; rw [if_neg h1, if_neg h2]
      rw [e1]
      exact ⟨_, rfl, hb, .fr (.v rfl)⟩
/-- A table's keys, frozen. -/
def namE (l : List (List UInt8)) : List (List AV) := l.map fun k => [.v (.string ⟨k.toArray⟩)]
theorem name_FR {C : Ctx} {w' : World} (g : Good C) {v : Value} {l : List (List UInt8)} (hne : l ≠ []) (hsz : C.w.heap.size ≤ w'.heap.size) (h : w'.ownsRow C.w.heap.size 9 1 v l.length (l.map encStr)) : FR w' (C.grow w').av (.sl 1 (namE l)) v := by
  obtain ⟨h1, ⟨rfl, h2⟩ | ⟨b, cap, cur, rfl, hb, hh, hc1, hc2, hc3, hc4⟩⟩ := h
  · exact absurd (List.eq_nil_of_length_eq_zero h2) hne
  · have hlen : (namE l).length = l.length := List.length_map _
    have hcell : ∀ i, i < l.length → w'.cell? ⟨b, i, none⟩ = some (encStr (l.getD i [])) := fun i hi => by
      have hi2 : i < cur.size := by omega
      have e : cur[i]? = some (encStr (l.getD i [])) := by
        have : (cur.toList.take (l.length * 1))[i]? = (l.map encStr)[i]? := by rw [hc4]
        rw [List.getElem?_take, if_pos (by omega), List.getElem?_map, List.getElem?_eq_getElem hi] at this
        rw [List.getD_eq_getElem?_getD, List.getElem?_eq_getElem hi]
        simpa using this
      simp [World.cell?, hh, e]
    have key : FR w' (C.grow w').av (.sl 1 (namE l)) (.slice (some ⟨b, 0, none⟩) (namE l).length cap) := by
      refine .sl ⟨b, 0, none⟩ b 0 cap (fun i j => encStr (l.getD i [])) (fun _ => ⟨rfl, by decide, fun hav => ?_⟩) (by omega) hc2 (fun i hi => ?_) (fun i j hi hj => ?_) (fun i j hi hj => rfl) (fun i j hi hj => ?_)
      · have := g.av_lt (C := C) (b := b) hav
        omega
      · rw [hlen] at hi
        simp [namE, List.getD_eq_getElem?_getD, List.getElem?_map, List.getElem?_eq_getElem hi]
      · rw [hlen] at hi
        obtain rfl : j = 0 := by omega
        have := hcell i hi
        simpa using this
      · rw [hlen] at hi
        obtain rfl : j = 0 := by omega
        have e : ((namE l).getD i []).getD 0 .dead = .v (encStr (l.getD i [])) := by
          simp [namE, List.getD_eq_getElem?_getD, List.getElem?_map, List.getElem?_eq_getElem hi, encStr]
        rw [e]
        exact .v rfl
    rw [hlen] at key
    exact key
theorem names_orc (t : Int) (n : Nat) (D0 : DataW Unit) (l : List (List UInt8)) (hall : ∀ w : World, Calls Tryz.prog 27 #[.int .i64 t] w fun e w' => e = .returned (.map (some w.heap.size)) ∧ w'.ownsMap Tryz.prog 9 (plainElem (H := Unit) Tryz.prog 3) w.heap.size n D0 ∧ RowKit.Below w.heap.size w w') (hmax : Maps.size D0 ≤ 100) (hp : (strKeys D0).Perm l) (hs : l.mergeSort leB = l) (hne : l ≠ []) : OrcOK Tryz.prog 18 [.v (.int .i64 t)] (.sl 1 (namE l)) := by
  refine orc_of_calls ⟨_, _, Tryz.func18, rfl⟩ fun C vs g hA => ?_
  rw [args1 hA]
  refine (Names_map t 0 n D0 C.w (hall C.w) hmax).mono ?_
  rintro e w' ⟨v, ss, rfl, hS, hrow, hnil, hb⟩
  have hpp := hS.trans hp
  have e1 : ss.mergeSort (fun x y => decide (x ≤ y)) = l := by
    have := mergeSort_of_perm hpp
    rw [hs] at this; exact this
  rw [e1, hpp.length_eq] at hrow
  exact ⟨v, rfl, hb, .fr (name_FR g hne hb.size hrow)⟩
theorem vi_orc : OrcOK Tryz.prog 18 [.v (.int .i64 1)] (.sl 1 (namE viN)) := names_orc 1 26 _ viN all_vi (by rw [viN_size]; decide) viN_perm viN_sort (by decide)
theorem em_orc : OrcOK Tryz.prog 18 [.v (.int .i64 2)] (.sl 1 (namE emN)) := names_orc 2 22 _ emN all_emacs (by rw [emN_size]; decide) emN_perm emN_sort (by decide)
end Go.Am
