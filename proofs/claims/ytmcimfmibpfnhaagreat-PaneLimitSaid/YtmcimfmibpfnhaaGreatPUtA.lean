/- Parts of the proof: PUtP PUtA. -/
import Derived.Test.YtmcimfmibpfnhaaGreatPUtf1
import Derived.Test.YtmcimfmibpfnhaaGreatPEpB
import Derived.Test.YtmcimfmibpfnhaaGreatAmG
set_option linter.all false
set_option linter.deprecated false

namespace Go.Am
variable {oc : Orc} [OrcI oc]
open Go.Proofs
set_option maxRecDepth 8000
set_option maxHeartbeats 1000000
def tot (a : Int) : Nat := if a < 224 then 2 else if a < 240 then 3 else 4
def loU (p : List Int) : Int := if p = [224] then 160 else if p = [240] then 144 else 128
def hiU (p : List Int) : Int := if p = [237] then 159 else if p = [244] then 143 else 191
def headU (a : Int) : Int := if a < 224 then a - 192 else if a < 240 then a - 224 else a - 240
def valU : List Int → Int
  | [] => 0
  | a :: q => q.foldl (fun r b => r * 64 + b % 64) (headU a)
def startU (b : Int) : List Int × List Int := if b < 128 then ([], [b]) else if 194 ≤ b ∧ b ≤ 244 then ([b], []) else ([], [65533])

/-- A byte behind what waits: what waits then; the signs that are whole. -/
def stepU (p : List Int) (b : Int) : List Int × List Int :=
  if p = [] then startU b
  else if loU p ≤ b ∧ b ≤ hiU p then (if p.length + 1 = tot (p.headD 0) then ([], [valU (p ++ [b])]) else (p ++ [b], []))
  else ((startU b).1, 65533 :: (startU b).2)
/-- What may wait. -/
def PendU (p : List Int) : Prop := p = [] ∨ (∃ a, p = [a] ∧ 194 ≤ a ∧ a ≤ 244) ∨ (∃ a b, p = [a, b] ∧ 224 ≤ a ∧ a ≤ 244 ∧ loU [a] ≤ b ∧ b ≤ hiU [a]) ∨ ∃ a b c, p = [a, b, c] ∧ 240 ≤ a ∧ a ≤ 244 ∧ loU [a] ≤ b ∧ b ≤ hiU [a] ∧ 128 ≤ c ∧ c ≤ 191
theorem startU_pend (b : Int) : PendU (startU b).1 := by
  unfold startU
  split
  · exact .inl rfl
  · split
    · rename_i h; exact .inr (.inl ⟨b, rfl, h⟩)
    · exact .inl rfl
theorem lo2 (a b : Int) : loU [a, b] = 128 ∧ hiU [a, b] = 191 := by simp [loU, hiU]
theorem lo3 (a b c : Int) : loU [a, b, c] = 128 ∧ hiU [a, b, c] = 191 := by simp [loU, hiU]
theorem stepU_pend {p : List Int} (h : PendU p) (b : Int) : PendU (stepU p b).1 := by
  unfold stepU
  split
  · exact startU_pend b
  · rename_i hp
    split
    · rename_i hb
      split
      · exact .inl rfl
      · rename_i ht
        rcases h with h | ⟨a, rfl, h1, h2⟩ | ⟨a, c, rfl, h1, h2, h3, h4⟩ | ⟨a, c, d, rfl, h1, h2, h3, h4, h5, h6⟩
        · exact absurd h hp
        · refine .inr (.inr (.inl ⟨a, b, rfl, ?_, h2, hb.1, hb.2⟩))
          have ht' : ¬ 2 = tot a := ht
          by_cases q : a < 224
          · exact absurd (by unfold tot; rw [if_pos q]) ht'
          · omega
        · refine .inr (.inr (.inr ⟨a, c, b, rfl, ?_, h2, h3, h4, ?_⟩))
          · have ht' : ¬ 3 = tot a := ht
            by_cases q : a < 240
            · exact absurd (by unfold tot; rw [if_neg (by omega), if_pos q]) ht'
            · omega
          · rw [(lo2 a c).1, (lo2 a c).2] at hb; exact hb
        · have ht' : ¬ 4 = tot a := ht
          exact absurd (by unfold tot; rw [if_neg (by omega), if_neg (by omega)]) ht'
    · exact startU_pend b
theorem PendU.len {p : List Int} (h : PendU p) : p.length ≤ 3 := by
  rcases h with rfl | ⟨a, rfl, _⟩ | ⟨a, b, rfl, _⟩ | ⟨a, b, c, rfl, _⟩ <;> simp
theorem PendU.lt {p : List Int} (h : PendU p) : p.length < tot (p.headD 0) := by
  rcases h with rfl | ⟨a, rfl, _⟩ | ⟨a, b, rfl, _⟩ | ⟨a, b, c, rfl, _⟩
  · decide
  · show 1 < tot a
    unfold tot; (repeat' split) <;> omega
  · show 2 < tot a
    unfold tot; (repeat' split) <;> omega
  · show 3 < tot a
    unfold tot; (repeat' split) <;> omega
/-! The document's way. -/

end Go.Am

namespace Go.Am
variable {oc : Orc} [OrcI oc]
open Go.Proofs
set_option maxRecDepth 8000
set_option maxHeartbeats 4000000
theorem and31 (x : Int) (h : 0 ≤ x ∧ x ≤ 255) : andI .u8 x 31 = x % 32 := by
  have : ∀ n : Fin 256, andI .u8 ((n.val : Nat) : Int) 31 = ((n.val : Nat) : Int) % 32 := by decide +kernel
  obtain ⟨n, rfl⟩ := Int.eq_ofNat_of_zero_le h.1
  exact this ⟨n, by omega⟩
theorem and15 (x : Int) (h : 0 ≤ x ∧ x ≤ 255) : andI .u8 x 15 = x % 16 := by
  have : ∀ n : Fin 256, andI .u8 ((n.val : Nat) : Int) 15 = ((n.val : Nat) : Int) % 16 := by decide +kernel
  obtain ⟨n, rfl⟩ := Int.eq_ofNat_of_zero_le h.1
  exact this ⟨n, by omega⟩
theorem and7 (x : Int) (h : 0 ≤ x ∧ x ≤ 255) : andI .u8 x 7 = x % 8 := by
  have : ∀ n : Fin 256, andI .u8 ((n.val : Nat) : Int) 7 = ((n.val : Nat) : Int) % 8 := by decide +kernel
  obtain ⟨n, rfl⟩ := Int.eq_ofNat_of_zero_le h.1
  exact this ⟨n, by omega⟩
theorem and63 (x : Int) (h : 0 ≤ x ∧ x ≤ 255) : andI .u8 x 63 = x % 64 := by
  have : ∀ n : Fin 256, andI .u8 ((n.val : Nat) : Int) 63 = ((n.val : Nat) : Int) % 64 := by decide +kernel
  obtain ⟨n, rfl⟩ := Int.eq_ofNat_of_zero_le h.1
  exact this ⟨n, by omega⟩
theorem or64n (r x : Nat) (hr : r < 2 ^ 20) (hx : x < 64) : orI .i32 ((r * 64 : Nat) : Int) (x : Int) = ((r * 64 + x : Nat) : Int) := by
  have h1 : (BitVec.ofInt 32 ((r * 64 : Nat) : Int)).toNat = r * 64 := by rw [BitVec.ofInt_natCast, BitVec.toNat_ofNat]; exact Nat.mod_eq_of_lt (by omega)
  have h2 : (BitVec.ofInt 32 (x : Int)).toNat = x := by rw [BitVec.ofInt_natCast, BitVec.toNat_ofNat]; exact Nat.mod_eq_of_lt (by omega)
  show IntKind.i32.wrap (((BitVec.ofInt 32 ((r * 64 : Nat) : Int) ||| BitVec.ofInt 32 (x : Int)).toNat : Nat) : Int) = _
  rw [BitVec.toNat_or, h1, h2]
  have h3 := Nat.shiftLeft_add_eq_or_of_lt (b := x) (i := 6) hx r
  rw [Nat.shiftLeft_eq] at h3
  rw [show r * 64 = r * 2 ^ 6 from rfl, ← h3]
  exact IntWalk.i32_in _ (by omega)
theorem or64 (r x : Int) (hr : 0 ≤ r ∧ r < 1048576) (hx : 0 ≤ x ∧ x < 64) : orI .i32 (r * 64) x = r * 64 + x := by
  obtain ⟨n, rfl⟩ := Int.eq_ofNat_of_zero_le hr.1
  obtain ⟨m, rfl⟩ := Int.eq_ofNat_of_zero_le hx.1
  have := or64n n m (by omega) (by omega)
  simpa using this

/-- The reader's cells. -/
structure URp (U : UC) (p : List Int) : Prop where
  wt : U.wt = p.length
  st : p ≠ [] → U.mo = tot (p.headD 0) - p.length ∧ U.r = valU p ∧ U.lo = loU p ∧ U.hi = hiU p
theorem URp.nil {U : UC} (h : U.wt = 0) : URp U [] := ⟨h, fun h => absurd rfl h⟩

/-- A pane whose reader alone is turned. -/
structure UTn (U : UC) (H : AHeap) (n : Nat) (w : Int) (A : AV) (any sp : Bool) (X : AV) (H' : AHeap) (p : List Int) (R : AV) (l : List Int) : Prop where
  ex : ∃ U' : UC, URp U' p ∧ U'.sn = U.sn ∧ U'.hn = U.hn ∧ H'.get n = some (pBlkE U' w A any sp X)
  tu : Turn (fun k => k = n) H H'
  ow : OwnS H' (fun k => H.next ≤ k ∧ k < H'.next) 21 1 R (runes l)
theorem valU_range {p : List Int} (h : PendU p) (hp : p ≠ []) : 0 ≤ valU p ∧ valU p < 131072 := by
  rcases h with rfl | ⟨a, rfl, h1, h2⟩ | ⟨a, b, rfl, h1, h2, h3, h4⟩ | ⟨a, b, c, rfl, h1, h2, h3, h4, h5, h6⟩
  · exact absurd rfl hp
  · simp only [valU, headU, List.foldl_nil]; split <;> (try split) <;> omega
  · simp only [valU, headU, List.foldl_cons, List.foldl_nil]; split <;> (try split) <;> omega
  · simp only [valU, headU, List.foldl_cons, List.foldl_nil]; split <;> (try split) <;> omega
theorem valU_snoc {p : List Int} (hp : p ≠ []) (b : Int) : valU (p ++ [b]) = valU p * 64 + b % 64 := by
  cases p with
  | nil => exact absurd rfl hp
  | cons a q => simp [valU, List.foldl_append]
theorem lo1 (a : Int) : loU [a] = if a = 224 then 160 else if a = 240 then 144 else 128 := by unfold loU; simp
theorem hi1 (a : Int) : hiU [a] = if a = 237 then 159 else if a = 244 then 143 else 191 := by unfold hiU; simp
theorem URp.one {U : UC} {b : Int} (h1 : U.wt = 1) (h2 : U.mo = (tot b : Int) - 1) (h3 : U.r = headU b) (h4 : U.lo = loU [b]) (h5 : U.hi = hiU [b]) : URp U [b] := ⟨h1, fun _ => ⟨h2, h3, h4, h5⟩⟩
theorem UTn.s {U U' : UC} {H : AHeap} {n : Nat} {w : Int} {A : AV} {any sp : Bool} {X : AV} {p : List Int} (h : URp U' p) (h1 : U'.sn = U.sn) (h2 : U'.hn = U.hn) : UTn U H n w A any sp X (H.set n (pBlkE U' w A any sp X)) p nilA [] :=
  ⟨⟨U', h, h1, h2, by rw [get_set, if_pos rfl]⟩, (Turn.refl (fun k => k = n) H).set n _ (.inl rfl), OwnS.nil⟩
theorem UTn.s1 {U U' : UC} {H : AHeap} {n : Nat} {w : Int} {A : AV} {any sp : Bool} {X : AV} {p : List Int} (hlt : n < H.next) (h : URp U' p) (h1 : U'.sn = U.sn) (h2 : U'.hn = U.hn) (c : Int) : UTn U H n w A any sp X ((H.set n (pBlkE U' w A any sp X)).push ⟨21, 1, 0, [[.v (.int .i32 c)]], none⟩) p (.os H.next 0 0 1) [c] :=
  ⟨⟨U', h, h1, h2, by rw [get_push, next_set, if_neg (by omega), get_set, if_pos rfl]⟩, ((Turn.refl (fun k => k = n) H).set n _ (.inl rfl)).push _, .inr ⟨H.next, 0, rfl, ⟨Nat.le_refl _, by rw [next_push, next_set]; omega⟩, by rw [next_push, next_set]; omega, by rw [get_push, next_set, if_pos rfl]; rfl⟩⟩
theorem start0 {b : Int} (h : b < 128) : startU b = ([], [b]) := by unfold startU; rw [if_pos h]
theorem start1 {b : Int} (h : 194 ≤ b) (h2 : b ≤ 244) : startU b = ([b], []) := by unfold startU; rw [if_neg (by omega), if_pos (by omega)]
theorem start2 {b : Int} (h : 128 ≤ b) (h2 : b < 194 ∨ 244 < b) : startU b = ([], [65533]) := by unfold startU; rw [if_neg (by omega), if_neg (by omega)]
section
variable {ys : List (Nat × LRec)} {lo : Nat} {H : AHeap} {n : Nat} {w : Int} {A X : AV} {any sp : Bool} {U : UC} {p : List Int}
theorem begins_wc (hln : lo ≤ n) (hlt : n < H.next) (hb : H.get n = some (pBlkE U w A any sp X)) (b : Int) (h0 : 0 ≤ b ∧ b ≤ 255) : WC (ELo oc) ys lo 114 [.op n 0 0 0, .v (.int .u8 b)] H fun R H' => UTn U H n w A any sp X H' (startU b).1 R (startU b).2 := by
  have a1 := and31 b h0
  have a2 := and15 b h0
  have a3 := and7 b h0
  have hne : ¬ H.next = n := by omega
  unfold pBlkE at hb
  refine zvin Tryz.func114 Tryz.ntmps114 ?_
  repeat' (first | refine zka ?_ | refine zkb ?_ | (apply RKp.op; ((try simp (disch := (first | omega | exact zX | fail)) only [hb, hln, hne, bin_and, a1, a2, a3, go_sem]); exact zL); rfl) | refine zkc ?_ | refine zz ?_ | refine zkd ?_ | refine zke ?_ | refine zkf ?_ | (refine RKg.split (fun h => ?_) (fun h => ?_) <;> (try rw [h]) <;> (replace h := zB h) <;> (try (exfalso; first | exact h | omega))) | refine zbt ?_ | apply V.regK | refine zvd ?_ | refine zve ?_ | (refine zvf (fun h => ?_) (fun h => ?_) <;> (replace h := zB h) <;> (try (exfalso; first | exact h | omega))) | (refine zfc Tryz.results114 ?_; (try dsimp only)))
  all_goals first
    | (rw [start0 (by omega)]; refine UTn.s1 (U := U) (U' := ⟨_, _, _, _, _, _, _⟩) hlt ?_ ?_ ?_ _ <;> first | exact URp.nil rfl | rfl)
    | (rw [start2 (by omega) (by omega)]; refine UTn.s1 (U := U) (U' := ⟨_, _, _, _, _, _, _⟩) hlt ?_ ?_ ?_ _ <;> first | exact URp.nil rfl | rfl)
    | (rw [start1 (by omega) (by omega)]
       refine UTn.s (U := U) (U' := ⟨_, _, _, _, _, _, _⟩) (URp.one ?_ ?_ ?_ ?_ ?_) ?_ ?_
       · rfl
       · dsimp only; unfold tot; (repeat' split) <;> omega
       · dsimp only; unfold headU; (repeat' split) <;> omega
       · dsimp only; rw [lo1]; (repeat' split) <;> omega
       · dsimp only; rw [hi1]; (repeat' split) <;> omega
       · rfl
       · rfl)
theorem End_wc (hln : lo ≤ n) (hlt : n < H.next) (hb : H.get n = some (pBlkE U w A any sp X)) (hw : ¬ U.wt = 0) : WC (ELo oc) ys lo 115 [.op n 0 0 0] H fun R H' => R = .os H.next 0 0 1 ∧ H' = (H.set n (pBlkE { U with wt := 0 } w A any sp X)).push ⟨21, 1, 0, [[.v (.int .i32 65533)]], none⟩ := by
  have hne : ¬ H.next = n := by omega
  unfold pBlkE at hb
  refine zvin Tryz.func115 Tryz.ntmps115 ?_
  repeat' (first | refine zka ?_ | refine zkb ?_ | (apply RKp.op; ((try simp (disch := (first | omega | exact zX | fail)) only [hb, hln, hne, go_sem]); exact zL); rfl) | refine zkc ?_ | refine zz ?_ | refine zkd ?_ | refine zke ?_ | refine zkf ?_ | (refine RKg.split (fun h => ?_) (fun h => ?_) <;> (try rw [h]) <;> (replace h := zB h) <;> (try (exfalso; first | exact h | omega))) | refine zbt ?_ | apply V.regK | refine zvd ?_ | refine zve ?_ | (refine zvf (fun h => ?_) (fun h => ?_) <;> (replace h := zB h) <;> (try (exfalso; first | exact h | omega))) | (refine zfc Tryz.results115 ?_; (try dsimp only)))
  exact ⟨rfl, rfl⟩
theorem uPut_wc (hln : lo ≤ n) (hlt : n < H.next) (hb : H.get n = some (pBlkE U w A any sp X)) (hU : URp U p) (hp : PendU p) (b : Int) (h0 : 0 ≤ b ∧ b ≤ 255) : WC (ELo oc) ys lo 83 [.op n 0 0 0, .v (.int .u8 b)] H fun R H' => UTn U H n w A any sp X H' (stepU p b).1 R (stepU p b).2 := by
  have hb2 := hb
  have hne : ¬ H.next = n := by omega
  unfold pBlkE at hb
  by_cases hpn : p = []
  · subst hpn
    have hbg := fun ys => WC.effE (E := (ELo oc)) (f := 114) rfl (begins_wc (ys := ys) hln hlt hb2 b h0)
    have hw : U.wt = 0 := hU.wt
    have e : stepU [] b = startU b := rfl
    rw [e]
    refine zvin Tryz.func83 Tryz.ntmps83 ?_
    repeat' (first | refine zka ?_ | refine zkb ?_ | (apply RKp.op; ((try simp (disch := (first | omega | exact zX | fail)) only [hb, hln, hne, hw, go_sem]); exact zL); rfl) | (apply RKp.call; (apply hbg <;> (exact zD)); rfl) | (apply RKp.callR; (apply hbg <;> (exact zD)); rfl; intro tr htr) | (apply RKp.callO; (apply hbg <;> (exact zD)); rfl; intro tr) | (apply RKp.callRE; (apply hbg <;> (exact zD)); (intro x; rfl)) | (apply RKp.callE; (apply hbg <;> (exact zD)); (intro x; rfl)) | refine zkc ?_ | refine zz ?_ | refine zkd ?_ | refine zke ?_ | refine zkf ?_ | (refine RKg.split (fun h => ?_) (fun h => ?_) <;> (try rw [h]) <;> (replace h := zB h) <;> (try (exfalso; first | exact h | omega))) | refine zbt ?_ | apply V.regK | refine zvd ?_ | refine zve ?_ | (refine zvf (fun h => ?_) (fun h => ?_) <;> (replace h := zB h) <;> (try (exfalso; first | exact h | omega))) | (refine zfc Tryz.results83 ?_; (try dsimp only)))
    rintro R H' tr hR
    repeat' (first | refine zka ?_ | refine zkb ?_ | (apply RKp.op; ((try simp (disch := (first | omega | exact zX | fail)) only [go_sem]); exact zL); rfl) | refine zkc ?_ | refine zz ?_ | refine zkd ?_ | refine zke ?_ | refine zkf ?_ | (refine RKg.split (fun h => ?_) (fun h => ?_) <;> (try rw [h]) <;> (replace h := zB h) <;> (try (exfalso; first | exact h | omega))) | refine zbt ?_ | apply V.regK | refine zvd ?_ | refine zve ?_ | (refine zvf (fun h => ?_) (fun h => ?_) <;> (replace h := zB h) <;> (try (exfalso; first | exact h | omega))) | (refine zfc Tryz.results83 ?_; (try dsimp only)))
    exact hR
  · obtain ⟨u1, u2, u3, u4⟩ := hU.st hpn
    have hwt := hU.wt
    have hpl : 1 ≤ p.length := by cases p with | nil => exact absurd rfl hpn | cons => simp
    have hp3 := hp.len
    have hp4 := hp.lt
    have hw : ¬ U.wt = 0 := by omega
    have ht4 : 2 ≤ tot (p.headD 0) ∧ tot (p.headD 0) ≤ 4 := by unfold tot; (repeat' split) <;> omega
    have hmo : IntKind.i64.wrap (U.mo - 1) = U.mo - 1 := IntWalk.i64_in _ (by omega)
    by_cases hin : loU p ≤ b ∧ b ≤ hiU p
    · have hv := valU_range hp hpn
      have a1 := and63 b h0
      have a2 := or64 U.r (b % 64) (by omega) (by omega)
      have a3 : ∀ t xo yo k, binOpA (ELo oc) .shl t xo yo (.v (.int .i32 U.r)) (.v (.int k 6)) = .val (.v (.int .i32 (U.r * 64))) := fun t xo yo k => by
        rw [bin_shl (ELo oc) t xo yo _ _ _ _ (by decide)]
        show Plan.val (.v (.int .i32 (IntKind.i32.wrap (U.r * 64)))) = _
        rw [IntWalk.i32_in _ (by omega)]
      have hs := valU_snoc hpn b
      refine zvin Tryz.func83 Tryz.ntmps83 ?_
      repeat' (first | refine zka ?_ | refine zkb ?_ | (apply RKp.op; ((try simp (disch := (first | omega | exact zX | fail)) only [hb, hln, hne, hw, bin_and, bin_or, a1, a2, a3, hmo, go_sem]); exact zL); rfl) | refine zkc ?_ | refine zz ?_ | refine zkd ?_ | refine zke ?_ | refine zkf ?_ | (refine RKg.split (fun h => ?_) (fun h => ?_) <;> (try rw [h]) <;> (replace h := zB h) <;> (try (exfalso; first | exact h | omega))) | refine zbt ?_ | apply V.regK | refine zvd ?_ | refine zve ?_ | (refine zvf (fun h => ?_) (fun h => ?_) <;> (replace h := zB h) <;> (try (exfalso; first | exact h | omega))) | (refine zfc Tryz.results83 ?_; (try dsimp only)))
      · try rw [hmo] at h
        have e : stepU p b = (p ++ [b], []) := by unfold stepU; rw [if_neg hpn, if_pos hin, if_neg (by omega)]
        rw [e]
        have hq : PendU (p ++ [b]) := by have := stepU_pend hp b; rw [e] at this; exact this
        have hd : (p ++ [b]).headD 0 = p.headD 0 := by cases p with | nil => exact absurd rfl hpn | cons => rfl
        have hl2 : loU (p ++ [b]) = 128 ∧ hiU (p ++ [b]) = 191 := by
          rcases hp with rfl | ⟨a, rfl, _⟩ | ⟨a, c, rfl, _⟩ | ⟨a, c, d, rfl, _⟩
          · exact absurd rfl hpn
          · exact lo2 a b
          · exact lo3 a c b
          · have := hq.len; simp at this
        refine UTn.s (U := U) (U' := ⟨_, _, _, _, _, _, _⟩) ⟨?_, fun _ => ⟨?_, ?_, ?_, ?_⟩⟩ ?_ ?_
        · dsimp only; rw [List.length_append]; simp; omega
        · dsimp only; rw [hd, List.length_append, List.length_singleton]; omega
        · dsimp only; rw [hs, u2]
        · exact hl2.1.symm
        · exact hl2.2.symm
        · rfl
        · rfl
      · try rw [hmo] at h
        have e : stepU p b = ([], [valU (p ++ [b])]) := by unfold stepU; rw [if_neg hpn, if_pos hin, if_pos (by omega)]
        rw [e, hs, ← u2]
        refine UTn.s1 (U := U) (U' := ⟨_, _, _, _, _, _, _⟩) hlt ?_ ?_ ?_ _ <;> first | exact URp.nil rfl | rfl
    · have e : stepU p b = ((startU b).1, 65533 :: (startU b).2) := by unfold stepU; rw [if_neg hpn, if_neg hin]
      have hE := fun ys => WC.effE (E := (ELo oc)) (f := 115) rfl (End_wc (ys := ys) hln hlt hb2 hw)
      have hb3 : ((H.set n (pBlkE { U with wt := 0 } w A any sp X)).push ⟨21, 1, 0, [[.v (.int .i32 65533)]], none⟩).get n = some (pBlkE { U with wt := 0 } w A any sp X) := by rw [get_push, next_set, if_neg hne, get_set, if_pos rfl]
      have hbg := fun ys => WC.effE (E := (ELo oc)) (f := 114) rfl (begins_wc (ys := ys) hln (by rw [next_push, next_set]; omega) hb3 b h0)
      have key : ∀ R H', UTn { U with wt := 0 } ((H.set n (pBlkE { U with wt := 0 } w A any sp X)).push ⟨21, 1, 0, [[.v (.int .i32 65533)]], none⟩) n w A any sp X H' (startU b).1 R (startU b).2 → ∃ x H3 tr, primL lo H' (appendA (ELo oc) 88 (.os H.next 0 0 1) R) = some (x, H3, tr) ∧ UTn U H n w A any sp X H3 (startU b).1 x (65533 :: (startU b).2) := by
        rintro R H' ⟨⟨U', q1, q2, q3, q4⟩, q5, q6⟩
        have n5 := q5.next
        rw [next_push, next_set] at n5
        have hq : OwS H' H.next 21 1 (.os H.next 0 0 1) (runes [65533]) := .inr ⟨H.next, 0, rfl, Nat.le_refl _, by omega, by rw [q5.keep H.next (by rw [next_push, next_set]; omega) (by omega), get_push, next_set, if_pos rfl]; rfl⟩
        obtain ⟨q7, q8⟩ := q6.self
        have hsl : (startU b).2.length ≤ 1 := by unfold startU; (repeat' split) <;> simp
        obtain ⟨x, H3, tr, r1, r2, r3, r4, r5, r6⟩ := hq.addN (ELo oc) lo (t := 88) (bytes := 4) (by kernel_rfl) q6.slh (fun k hk hk2 => by
          obtain ⟨_, _, _, z⟩ := hk; cases z
          have := (q8 H.next hk2).1.1
          rw [next_push, next_set] at this; omega) (by omega) (by omega) (by rw [runes_len, runes_len]; unfold roomMax; simp; omega)
        refine ⟨x, H3, tr, r1, ⟨U', q1, q2, q3, ?_⟩, ⟨by omega, by rw [r5, q5.js]; rfl, fun k hk hkn => ?_⟩, ?_⟩
        · rw [r4 n (by omega) (by rintro ⟨_, _, _, z⟩; cases z; exact hne rfl)]; exact q4
        · rw [r4 k (by omega) (by rintro ⟨_, _, _, z⟩; cases z; omega), q5.keep k (by rw [next_push, next_set]; omega) hkn, get_push, next_set, if_neg (by omega), get_set, if_neg (fun z => hkn z.symm)]
        · have e1 : runes [65533] ++ runes (startU b).2 = runes (65533 :: (startU b).2) := rfl
          rw [e1] at r2
          rcases r2 with ⟨z, _⟩ | ⟨m, e, rfl, s1, s2, s3⟩
          · cases z
          · exact .inr ⟨m, e, rfl, ⟨s1, s2⟩, s2, s3⟩
      rw [e]
      refine zvin Tryz.func83 Tryz.ntmps83 ?_
      repeat' (first | refine zka ?_ | refine zkb ?_ | (apply RKp.op; ((try simp (disch := (first | omega | exact zX | fail)) only [hb, hln, hne, hw, go_sem]); exact zL); rfl) | (apply RKp.call; (apply hE <;> (exact zD)); rfl) | (apply RKp.callR; (apply hE <;> (exact zD)); rfl; intro tr htr) | (apply RKp.callO; (apply hE <;> (exact zD)); rfl; intro tr) | (apply RKp.callRE; (apply hE <;> (exact zD)); (intro x; rfl)) | (apply RKp.callE; (apply hE <;> (exact zD)); (intro x; rfl)) | refine zkc ?_ | refine zz ?_ | refine zkd ?_ | refine zke ?_ | refine zkf ?_ | (refine RKg.split (fun h => ?_) (fun h => ?_) <;> (try rw [h]) <;> (replace h := zB h) <;> (try (exfalso; first | exact h | omega))) | refine zbt ?_ | apply V.regK | refine zvd ?_ | refine zve ?_ | (refine zvf (fun h => ?_) (fun h => ?_) <;> (replace h := zB h) <;> (try (exfalso; first | exact h | omega))) | (refine zfc Tryz.results83 ?_; (try dsimp only)))
      all_goals
        rintro R1 H1 tr1 ⟨rfl, rfl⟩
        repeat' (first | refine zka ?_ | refine zkb ?_ | (apply RKp.op; ((try simp (disch := (first | omega | exact zX | fail)) only [go_sem]); exact zL); rfl) | (apply RKp.call; (apply hbg <;> (exact zD)); rfl) | (apply RKp.callR; (apply hbg <;> (exact zD)); rfl; intro tr htr) | (apply RKp.callO; (apply hbg <;> (exact zD)); rfl; intro tr) | (apply RKp.callRE; (apply hbg <;> (exact zD)); (intro x; rfl)) | (apply RKp.callE; (apply hbg <;> (exact zD)); (intro x; rfl)) | refine zkc ?_ | refine zz ?_ | refine zkd ?_ | refine zke ?_ | refine zkf ?_ | (refine RKg.split (fun h => ?_) (fun h => ?_) <;> (try rw [h]) <;> (replace h := zB h) <;> (try (exfalso; first | exact h | omega))) | refine zbt ?_ | apply V.regK | refine zvd ?_ | refine zve ?_ | (refine zvf (fun h => ?_) (fun h => ?_) <;> (replace h := zB h) <;> (try (exfalso; first | exact h | omega))) | (refine zfc Tryz.results83 ?_; (try dsimp only)))
        rintro R H' tr hR
        obtain ⟨x, H3, tr3, r1, r2⟩ := key R H' hR
        repeat' (first | refine zka ?_ | refine zkb ?_ | (apply RKp.op; ((try simp (disch := (first | omega | exact zX | fail)) only [r1, go_sem]); exact zL); rfl) | refine zkc ?_ | refine zz ?_ | refine zkd ?_ | refine zke ?_ | refine zkf ?_ | (refine RKg.split (fun h => ?_) (fun h => ?_) <;> (try rw [h]) <;> (replace h := zB h) <;> (try (exfalso; first | exact h | omega))) | refine zbt ?_ | apply V.regK | refine zvd ?_ | refine zve ?_ | (refine zvf (fun h => ?_) (fun h => ?_) <;> (replace h := zB h) <;> (try (exfalso; first | exact h | omega))) | (refine zfc Tryz.results83 ?_; (try dsimp only)))
        exact r2
end
end Go.Am
