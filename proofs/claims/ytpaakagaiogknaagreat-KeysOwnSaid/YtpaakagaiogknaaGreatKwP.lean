/- KeysOwn: the program's, by the model's walk. -/
import Derived.Test.YtpaakagaiogknaaGreatKKeC
import Derived.Test.YtpaakagaiogknaaGreatAmC
set_option linter.all false
set_option linter.deprecated false
set_option linter.all false
namespace Go.Am
open Go.Proofs Go.RowKit Go.WideMaps Go.Maps Go.Sort Go.Shelf
set_option maxRecDepth 100000
set_option maxHeartbeats 4000000
theorem begun_calls (w : World) : Calls Tryz.prog 8 #[] w fun e w' => e = .returned (.bool true) ∧ RowKit.Below w.heap.size w w' := by
  obtain ⟨H, h⟩ := isT_ok begun18_run
  have h : WC EB3 [] 0 8 [] .empty fun x _ => x = .v (.bool true) := ⟨3000, _, H, h, rfl⟩
  exact law_calls EB3_ok h ⟨rfl, fun i hi => absurd hi (Nat.not_lt_zero _)⟩
theorem bits_one (t : Int) : bits .and .i64 t 1 = 0 ∨ bits .and .i64 t 1 = 1 := by
  have h : bits .and .i64 t 1 = IntKind.i64.wrap (((BitVec.ofInt 64 t).toNat % 2 : Nat) : Int) := by
    show IntKind.i64.wrap (((BitVec.ofInt 64 t &&& BitVec.ofInt 64 1).toNat : Nat) : Int) = _
    rw [BitVec.toNat_and]
    have : (BitVec.ofInt 64 1).toNat = 1 := by decide
    rw [this, Nat.and_one_is_mod]
  have h2 : (BitVec.ofInt 64 t).toNat % 2 = 0 ∨ (BitVec.ofInt 64 t).toNat % 2 = 1 := by omega
  rcases h2 with z | z
  · left; rw [h, z]; decide
  · right; rw [h, z]; decide
theorem Names_row (t : Int) (n m : Nat) (D0 : DataW Unit) (l : List (List UInt8)) (hall : ∀ w : World, Calls Tryz.prog 27 #[.int .i64 t] w fun e w' => e = .returned (.map (some w.heap.size)) ∧ w'.ownsMap Tryz.prog 9 (plainElem (H := Unit) Tryz.prog 3) w.heap.size n D0 ∧ RowKit.Below w.heap.size w w') (hmax : Maps.size D0 ≤ 100) (hp : (strKeys D0).Perm l) (hs : l.mergeSort leB = l) (hne : l ≠ []) (hm : l.length = m) (w : World) :
    Calls Tryz.prog 18 #[.int .i64 t] w fun e w' => ∃ b cap, e = .returned (.slice (some ⟨b, 0, none⟩) m cap) ∧ w.heap.size ≤ b ∧ b < w'.heap.size ∧ (∀ i, i < m → w'.cell? ⟨b, i, none⟩ = some (.string ⟨(l.getD i []).toArray⟩)) ∧ w'.frozen? ⟨b, 0, none⟩ = false ∧ RowKit.Below w.heap.size w w' := by
  refine (Names_map t 0 n D0 w (hall w) hmax).mono ?_
  rintro e w' ⟨v, ss, rfl, hS, hrow, hnil, hb⟩
  have hpp := hS.trans hp
  have e1 : ss.mergeSort (fun x y => decide (x ≤ y)) = l := by
    have := mergeSort_of_perm hpp
    rw [hs] at this; exact this
  rw [e1, hpp.length_eq, hm] at hrow
  obtain ⟨h1, ⟨rfl, h2⟩ | ⟨b, cap, cur, rfl, hbb, hh, hc1, hc2, hc3, hc4⟩⟩ := hrow
  · exact absurd (List.eq_nil_of_length_eq_zero (hm.trans h2)) hne
  · refine ⟨b, cap, rfl, hbb, ?_, fun i hi => ?_, ?_, hb⟩
    · exact (Array.getElem?_eq_some_iff.1 hh).1
    · have hi2 : i < cur.size := by omega
      have e : cur[i]? = some (encStr (l.getD i [])) := by
        have h9 : (cur.toList.take (m * 1))[i]? = (l.map encStr)[i]? := by rw [hc4]
        rw [List.getElem?_take, if_pos (by omega), List.getElem?_map, List.getElem?_eq_getElem (show i < l.length by omega)] at h9
        have h10 : cur[i]? = cur.toList[i]? := (Array.getElem?_toList ..).symm
        rw [h10, h9, List.getD_eq_getElem?_getD, List.getElem?_eq_getElem (by omega)]; rfl
      have : w'.cell? ⟨b, i, none⟩ = some (encStr (l.getD i [])) := by simp [World.cell?, hh, e]
      exact this
    · simp [World.frozen?, hh]
theorem Deed_vi2 (s : ByteArray) (hs : s.size ≤ maxLen) (w : World) : Calls Tryz.prog 16 #[.int .i64 1, .string s] w fun e w' => e = .returned (.int .i64 (deedT 1 s)) ∧ RowKit.Below w.heap.size w w' := by
  refine (Deed_vi s hs w).mono ?_
  rintro e w' ⟨c, rfl, hat, hb⟩
  have e1 : deedT 1 s = c := by unfold deedT; rw [if_pos rfl, hat]; rfl
  rw [e1]; exact ⟨rfl, hb⟩
theorem Deed_em2 (s : ByteArray) (hs : s.size ≤ maxLen) (w : World) : Calls Tryz.prog 16 #[.int .i64 2, .string s] w fun e w' => e = .returned (.int .i64 (deedT 2 s)) ∧ RowKit.Below w.heap.size w w' := by
  refine (Deed_emacs s hs w).mono ?_
  rintro e w' ⟨c, rfl, hat, hb⟩
  have e1 : deedT 2 s = c := by unfold deedT; rw [if_neg (by decide), if_pos rfl, hat]; rfl
  rw [e1]; exact ⟨rfl, hb⟩
theorem mod_19 (d : Int) : 1 ≤ wrap64 (1 + (wrap64 (d.tmod 19 + 19)).tmod 19) ∧ wrap64 (1 + (wrap64 (d.tmod 19 + 19)).tmod 19) ≤ 19 := by
  have h1 : d.tmod 19 < 19 := Int.tmod_lt_of_pos d (by decide)
  have h2 : -19 < d.tmod 19 := Int.lt_tmod_of_pos d (by decide)
  have e1 : wrap64 (d.tmod 19 + 19) = d.tmod 19 + 19 := IntWalk.wrap64_in _ ⟨by omega, by omega⟩
  rw [e1]
  have h0 : 0 ≤ d.tmod 19 + 19 := by omega
  generalize d.tmod 19 + 19 = x at *
  have h3 : x.tmod 19 < 19 := Int.tmod_lt_of_pos x (by decide)
  have h4 : 0 ≤ x.tmod 19 := Int.tmod_nonneg 19 (by omega)
  have e2 : wrap64 (1 + x.tmod 19) = 1 + x.tmod 19 := IntWalk.wrap64_in _ ⟨by omega, by omega⟩
  rw [e2]; omega
def hasK (P : Nat → Int) (k : Nat) (e : Int) : Bool := (List.range k).any fun j => P j == e
theorem hasK_S (P : Nat → Int) (k : Nat) (e : Int) : hasK P (k + 1) e = (hasK P k e || P k == e) := by
  unfold hasK; rw [List.range_succ, List.any_append]; simp
theorem KeysOwn_vi (t d : Int) (w : World) (hbt : bits .and .i64 t 1 = 0) (ky : Nat → ByteArray) (hky : ∀ i, ky i = ⟨(viN.getD i []).toArray⟩) (hzz : ∀ i, i < 26 → ((ky i).toList == [122, 122]) = false) (hsz : ∀ i, (ky i).size ≤ maxLen) (hF : ∀ e : Int, 1 ≤ e → e ≤ 19 → hasK (fun j => deedT 1 (ky j)) 26 e = true) : Calls Tryz.prog 7 #[.int .i64 t, .int .i64 d] w fun e w' => e = .returned (.bool true) ∧ RowKit.Below w.heap.size w w' := by
  have hkyH : Hid (∀ i, ky i = ⟨(viN.getD i []).toArray⟩) := hky
  have hzzH : Hid (∀ i, i < 26 → ((ky i).toList == [122, 122]) = false) := hzz
  have hFH : Hid (∀ e : Int, 1 ≤ e → e ≤ 19 → hasK (fun j => deedT 1 (ky j)) 26 e = true) := hF
  clear hky hzz hF
  go_enter Tryz.func7, Tryz.ntmps7
  go_wp2_with (first
    | (go_at_call 8; refine (begun_calls w).mono ?_; rintro e w1 ⟨rfl, hb1⟩)
    | (go_at_call 18; refine (Names_row 1 26 26 _ viN all_vi (by rw [viN_size]; decide) viN_perm viN_sort (by decide) rfl _).mono ?_; rintro e w2 ⟨b, cap, rfl, hb, hb', hc, hf, hb2⟩; have hc0 := hc 0 (by decide); have hB2 := hb1.trans (hb2.mono hb1.size); have hbw := Nat.le_trans hb1.size hb; clear hb1 hb2 hb)
    | (go_at_call 18; refine (Names_row 1 26 26 _ viN all_vi (by rw [viN_size]; decide) viN_perm viN_sort (by decide) rfl _).mono ?_; rintro e w4 ⟨b4, cap4, rfl, hb4, hb4', hc4, hf4, hb5⟩; have hB4 := (hB2.setCell (p := ⟨b, 0, none⟩) hbw (.string ⟨#[122, 122]⟩)).trans (hb5.mono (hB2.setCell (p := ⟨b, 0, none⟩) hbw (.string ⟨#[122, 122]⟩)).size)))
  obtain ⟨he1, he2⟩ := mod_19 d
  generalize wrap64 (1 + (wrap64 (d.tmod 19 + 19)).tmod 19) = e at *
  have hcH : Hid (∀ i, i < 26 → w4.cell? ⟨b4, i, none⟩ = some (.string (ky i))) := fun i hi => by rw [hkyH.out]; exact hc4 i hi
  clear hc hc0 hc4
  go_loopw [7, 31] (fun h i wr => ∃ k : Nat, k ≤ 26 ∧ i = .int .i64 k ∧ h = .bool (hasK (fun j => deedT 1 (ky j)) k e) ∧ RowKit.Below w4.heap.size w4 wr) (fun _ i _ => 26 - (RowKit.intOf i).toNat)
  case atStart => exact ⟨0, Nat.zero_le _, rfl, rfl, RowKit.Below.refl _ _⟩
  case round =>
    obtain ⟨k, hk, rfl, rfl, hbr⟩ := hrel
    by_cases hlt : k < 26
    · have hcx : wr.cell? ⟨b4, k, none⟩ = some (.string (ky k)) := (hbr.cell (by exact hb4')).trans (hcH.out k hlt)
      have hzk : ((ky k).toList == [122, 122]) = false := hzzH.out k hlt
      have hszk := hsz k
      clear hsz
      go_wp2_with (first
        | (go_at_call 16; refine (Deed_vi2 (ky k) hszk _).mono ?_; rintro e3 w3 ⟨rfl, hb3⟩))
      · go_roundw
        case rel => exact ⟨k + 1, by omega, by go_num, by rw [hasK_S, ‹hasK _ k e = true›]; rfl, hbr⟩
        case measure => simp [RowKit.intOf]; omega
      · go_roundw
        case rel => exact ⟨k + 1, by omega, by go_num, by rw [hasK_S, Bool.eq_false_iff.2 ‹¬ hasK _ k e = true›, Bool.false_or], hbr.trans (hb3.mono hbr.size)⟩
        case measure => simp [RowKit.intOf]; omega
    · obtain rfl : k = 26 := by omega
      have hF := hFH.out e he1 he2
      go_wp2
      all_goals first
        | (go_ret; exact ⟨rfl, hB4.trans (hbr.mono hB4.size)⟩)
        | (have h12 : ¬ e = 12 := by assumption
           go_ret
           refine ⟨?_, hB4.trans (hbr.mono hB4.size)⟩
           by_cases h19 : e = 19 <;> simp [h12, h19])
        | trace_state
theorem KeysOwn_em (t d : Int) (w : World) (hbt : bits .and .i64 t 1 = 1) (ky : Nat → ByteArray) (hky : ∀ i, ky i = ⟨(emN.getD i []).toArray⟩) (hzz : ∀ i, i < 22 → ((ky i).toList == [122, 122]) = false) (hsz : ∀ i, (ky i).size ≤ maxLen) (hF : ∀ e : Int, 1 ≤ e → e ≤ 19 → hasK (fun j => deedT 2 (ky j)) 22 e = (!(decide (e = 12)) && !(decide (e = 19)))) : Calls Tryz.prog 7 #[.int .i64 t, .int .i64 d] w fun e w' => e = .returned (.bool true) ∧ RowKit.Below w.heap.size w w' := by
  have hkyH : Hid (∀ i, ky i = ⟨(emN.getD i []).toArray⟩) := hky
  have hzzH : Hid (∀ i, i < 22 → ((ky i).toList == [122, 122]) = false) := hzz
  have hFH : Hid (∀ e : Int, 1 ≤ e → e ≤ 19 → hasK (fun j => deedT 2 (ky j)) 22 e = (!(decide (e = 12)) && !(decide (e = 19)))) := hF
  clear hky hzz hF
  go_enter Tryz.func7, Tryz.ntmps7
  go_wp2_with (first
    | (go_at_call 8; refine (begun_calls w).mono ?_; rintro e w1 ⟨rfl, hb1⟩)
    | (go_at_call 18; refine (Names_row 2 22 22 _ emN all_emacs (by rw [emN_size]; decide) emN_perm emN_sort (by decide) rfl _).mono ?_; rintro e w2 ⟨b, cap, rfl, hb, hb', hc, hf, hb2⟩; have hc0 := hc 0 (by decide); have hB2 := hb1.trans (hb2.mono hb1.size); have hbw := Nat.le_trans hb1.size hb; clear hb1 hb2 hb)
    | (go_at_call 18; refine (Names_row 2 22 22 _ emN all_emacs (by rw [emN_size]; decide) emN_perm emN_sort (by decide) rfl _).mono ?_; rintro e w4 ⟨b4, cap4, rfl, hb4, hb4', hc4, hf4, hb5⟩; have hB4 := (hB2.setCell (p := ⟨b, 0, none⟩) hbw (.string ⟨#[122, 122]⟩)).trans (hb5.mono (hB2.setCell (p := ⟨b, 0, none⟩) hbw (.string ⟨#[122, 122]⟩)).size)))
  obtain ⟨he1, he2⟩ := mod_19 d
  generalize wrap64 (1 + (wrap64 (d.tmod 19 + 19)).tmod 19) = e at *
  have hcH : Hid (∀ i, i < 22 → w4.cell? ⟨b4, i, none⟩ = some (.string (ky i))) := fun i hi => by rw [hkyH.out]; exact hc4 i hi
  clear hc hc0 hc4
  go_loopw [7, 31] (fun h i wr => ∃ k : Nat, k ≤ 22 ∧ i = .int .i64 k ∧ h = .bool (hasK (fun j => deedT 2 (ky j)) k e) ∧ RowKit.Below w4.heap.size w4 wr) (fun _ i _ => 22 - (RowKit.intOf i).toNat)
  case atStart => exact ⟨0, Nat.zero_le _, rfl, rfl, RowKit.Below.refl _ _⟩
  case round =>
    obtain ⟨k, hk, rfl, rfl, hbr⟩ := hrel
    by_cases hlt : k < 22
    · have hcx : wr.cell? ⟨b4, k, none⟩ = some (.string (ky k)) := (hbr.cell (by exact hb4')).trans (hcH.out k hlt)
      have hzk : ((ky k).toList == [122, 122]) = false := hzzH.out k hlt
      have hszk := hsz k
      clear hsz
      go_wp2_with (first
        | (go_at_call 16; refine (Deed_em2 (ky k) hszk _).mono ?_; rintro e3 w3 ⟨rfl, hb3⟩))
      · go_roundw
        case rel => exact ⟨k + 1, by omega, by go_num, by rw [hasK_S, ‹hasK _ k e = true›]; rfl, hbr⟩
        case measure => simp [RowKit.intOf]; omega
      · go_roundw
        case rel => exact ⟨k + 1, by omega, by go_num, by rw [hasK_S, Bool.eq_false_iff.2 ‹¬ hasK _ k e = true›, Bool.false_or], hbr.trans (hb3.mono hbr.size)⟩
        case measure => simp [RowKit.intOf]; omega
    · obtain rfl : k = 22 := by omega
      have hF := hFH.out e he1 he2
      go_wp2
      all_goals first
        | (go_ret; exact ⟨rfl, hB4.trans (hbr.mono hB4.size)⟩)
        | (have h12 : ¬ e = 12 := by assumption
           go_ret
           refine ⟨?_, hB4.trans (hbr.mono hB4.size)⟩
           by_cases h19 : e = 19 <;> simp [h12, h19])
        | trace_state
theorem vi_all (e : Int) (h1 : 1 ≤ e) (h2 : e ≤ 19) : hasK (fun j => deedT 1 ⟨(viN.getD j []).toArray⟩) 26 e = true := by
  have h : ∀ n : Nat, n < 20 → 1 ≤ n → hasK (fun j => deedT 1 ⟨(viN.getD j []).toArray⟩) 26 (n : Int) = true := by decide +kernel
  obtain ⟨n, rfl⟩ : ∃ n : Nat, e = n := ⟨e.toNat, by omega⟩
  exact h n (by omega) (by omega)
theorem em_all (e : Int) (h1 : 1 ≤ e) (h2 : e ≤ 19) : hasK (fun j => deedT 2 ⟨(emN.getD j []).toArray⟩) 22 e = (!(decide (e = 12)) && !(decide (e = 19))) := by
  have h : ∀ n : Nat, n < 20 → 1 ≤ n → hasK (fun j => deedT 2 ⟨(emN.getD j []).toArray⟩) 22 (n : Int) = (!(decide ((n : Int) = 12)) && !(decide ((n : Int) = 19))) := by decide +kernel
  obtain ⟨n, rfl⟩ : ∃ n : Nat, e = n := ⟨e.toNat, by omega⟩
  exact h n (by omega) (by omega)
theorem KeysOwn_calls (t d : Int) (w : World) : Calls Tryz.prog 7 #[.int .i64 t, .int .i64 d] w fun e w' => e = .returned (.bool true) ∧ RowKit.Below w.heap.size w w' := by
  have hv : ∀ i, i < 26 → ((⟨(viN.getD i []).toArray⟩ : ByteArray).toList == [122, 122]) = false ∧ (⟨(viN.getD i []).toArray⟩ : ByteArray).size ≤ 20 := by decide +kernel
  have he : ∀ i, i < 22 → ((⟨(emN.getD i []).toArray⟩ : ByteArray).toList == [122, 122]) = false ∧ (⟨(emN.getD i []).toArray⟩ : ByteArray).size ≤ 20 := by decide +kernel
  have hd : ∀ l : List (List UInt8), ∀ i, l.length ≤ i → (⟨(l.getD i []).toArray⟩ : ByteArray).size ≤ maxLen := fun l i h => by
    rw [List.getD_eq_getElem?_getD, List.getElem?_eq_none h]; decide
  rcases bits_one t with h | h
  · refine KeysOwn_vi t d w h (fun i => ⟨(viN.getD i []).toArray⟩) (fun i => rfl) (fun i hi => (hv i hi).1) (fun i => ?_) vi_all
    by_cases q : i < 26
    · exact Nat.le_trans (hv i q).2 (by decide)
    · exact hd viN i (by have : viN.length = 26 := rfl; omega)
  · refine KeysOwn_em t d w h (fun i => ⟨(emN.getD i []).toArray⟩) (fun i => rfl) (fun i hi => (he i hi).1) (fun i => ?_) em_all
    by_cases q : i < 22
    · exact Nat.le_trans (he i q).2 (by decide)
    · exact hd emN i (by have : emN.length = 22 := rfl; omega)
end Go.Am
