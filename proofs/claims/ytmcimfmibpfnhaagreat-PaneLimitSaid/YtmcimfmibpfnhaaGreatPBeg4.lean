/- Parts of the proof: PBeg PBeg2 PBeg3 PBeg4. -/
import Derived.Test.YtmcimfmibpfnhaaGreatPRowJ
import Derived.Test.YtmcimfmibpfnhaaGreatAmH
set_option linter.all false
set_option linter.deprecated false

namespace Go.Am
variable {oc : Orc} [OrcI oc]
open Go.Proofs
set_option maxRecDepth 8000
set_option maxHeartbeats 4000000
def isI (x : Int) (n : Nat) : Bool := match x with
  | .ofNat m => Nat.beq m n
  | .negSucc _ => false
theorem isI_eq (x : Int) (n : Nat) : isI x n = decide (x = (n : Int)) := by
  cases x with
  | ofNat m =>
    show Nat.beq m n = _
    rw [Bool.eq_iff_iff, decide_eq_true_eq]
    constructor
    · intro h; rw [Nat.eq_of_beq_eq_true h]; rfl
    · intro h
      have : m = n := by rw [show Int.ofNat m = (m : Int) from rfl] at h; omega
      rw [this]; exact Nat.beq_refl n
  | negSucc m =>
    show false = _
    symm; rw [decide_eq_false_iff_not]; omega
def widthK (r : Int) : Int := match r with
  | .ofNat n => bif Nat.ble 32 n && Nat.ble n 126 then 1 else widthI r
  | .negSucc _ => 0
theorem widthK_eq (r : Int) : widthK r = widthI r := by
  cases r with
  | ofNat n =>
    show (bif Nat.ble 32 n && Nat.ble n 126 then 1 else _) = _
    cases h : (Nat.ble 32 n && Nat.ble n 126) with
    | false => rfl
    | true =>
      simp only [Bool.and_eq_true, Nat.ble_eq] at h
      have h1 : noneB (Int.ofNat n) = false := by
        unfold noneB; rw [decide_eq_false_iff_not]
        rw [show Int.ofNat n = (n : Int) from rfl]; omega
      have h2 : wideB (Int.ofNat n) = false := by
        unfold wideB; rw [decide_eq_false_iff_not]
        rw [show Int.ofNat n = (n : Int) from rfl]; omega
      unfold widthI
      rw [h1, h2]; rfl
  | negSucc n =>
    show (0 : Int) = _
    unfold widthI
    have h1 : noneB (Int.negSucc n) = true := by
      unfold noneB; rw [decide_eq_true_eq]; left; omega
    rw [h1]; rfl
def mayK (r w a : Int) : Bool := (match a with | .ofNat m => Nat.ble m 255 | .negSucc _ => false) &&
  ((isI w 0 && isI r 0) || (isI w 1 && isI r 0 && isI a 0) || ((isI w 1 || isI w 2) && decide (w = widthK r)))
theorem mayK_eq (r w a : Int) : mayK r w a = decide (mayC r w a) := by
  have e : (match a with | .ofNat m => Nat.ble m 255 | .negSucc _ => false) = decide (0 ≤ a ∧ a ≤ 255) := by
    cases a with
    | ofNat m =>
      show Nat.ble m 255 = _
      rw [Bool.eq_iff_iff, Nat.ble_eq, decide_eq_true_eq, show Int.ofNat m = (m : Int) from rfl]; omega
    | negSucc m =>
      show false = _
      symm; rw [decide_eq_false_iff_not]; omega
  rw [Bool.eq_iff_iff, show (decide (mayC r w a) = true) = mayC r w a from decide_eq_true_eq]
  unfold mayK mayC
  rw [e, isI_eq, isI_eq, isI_eq, isI_eq, isI_eq, widthK_eq]
  simp only [Bool.and_eq_true, Bool.or_eq_true, decide_eq_true_eq]
  show _ ∧ ((w = 0 ∧ r = 0 ∨ (w = 1 ∧ r = 0) ∧ a = 0) ∨ (w = 1 ∨ w = 2) ∧ w = widthI r) ↔ _
  constructor
  · rintro ⟨h1, (⟨h2, h3⟩ | ⟨⟨h2, h3⟩, h4⟩) | ⟨h2, h3⟩⟩
    · exact ⟨h1, .inr (.inl ⟨h2, h3⟩)⟩
    · exact ⟨h1, .inl ⟨h3, h2, h4⟩⟩
    · exact ⟨h1, .inr (.inr ⟨h2, h3⟩)⟩
  · rintro ⟨h1, ⟨h2, h3, h4⟩ | ⟨h2, h3⟩ | ⟨h2, h3⟩⟩
    · exact ⟨h1, .inl (.inr ⟨⟨h3, h2⟩, h4⟩)⟩
    · exact ⟨h1, .inl (.inl ⟨h2, h3⟩)⟩
    · exact ⟨h1, .inr ⟨h2, h3⟩⟩

/-- Cells, out of a slice's elements. -/
def cesK : List (List AV) → Option (List Ce)
  | [] => some []
  | [.v (.int .i32 r), .v (.int .i64 w), .v (.int .i64 a)] :: es => (cesK es).map (⟨r, w, a⟩ :: ·)
  | _ => none
theorem cesK_eq {es : List (List AV)} {l : List Ce} (h : cesK es = some l) : es = cesA l := by
  induction es generalizing l with
  | nil => cases h; rfl
  | cons c es ih =>
    unfold cesK at h
    split at h
    · rename_i e; cases e
    · rename_i r w a es' e
      cases e
      cases hk : cesK es with
      | none => rw [hk] at h; cases h
      | some m =>
        rw [hk] at h
        cases h
        rw [ih hk]; rfl
    · cases h
def rowK : Bool → Int → List Ce → Bool
  | o, _, [] => !o
  | o, a, c :: l => mayK c.r c.w c.a && (o == isI c.w 0) && (!o || decide (c.a = a)) && rowK (isI c.w 2) c.a l
theorem rowK_eq (l : List Ce) : ∀ (n i : Nat), l.length - i = n → i ≤ l.length → (rowK (openB l i) (aheadA l i) (l.drop i) = true ↔ (∀ j, i ≤ j → j < l.length → stepOk l j) ∧ openB l l.length = false) := by
  intro n
  induction n with
  | zero =>
    intro i h hi
    have e : i = l.length := by omega
    subst e
    rw [List.drop_length]
    show (!openB l l.length) = true ↔ _
    rw [Bool.not_eq_true']
    exact ⟨fun h => ⟨fun j h1 h2 => by omega, h⟩, fun h => h.2⟩
  | succ n ih =>
    intro i h hi
    have hlt : i < l.length := by omega
    rw [List.drop_eq_getElem_cons hlt]
    have hg : l.getD i zeroC = l[i] := by rw [List.getD_eq_getElem?_getD, List.getElem?_eq_getElem hlt]; rfl
    have ho : openB l (i + 1) = isI l[i].w 2 := by
      show decide ((l.getD i zeroC).w = 2) = _
      rw [hg, isI_eq]; rfl
    have ha : aheadA l (i + 1) = l[i].a := by
      show (l.getD i zeroC).a = _
      rw [hg]
    have hst : stepOk l i ↔ (mayK l[i].r l[i].w l[i].a && (openB l i == isI l[i].w 0) && (!openB l i || decide (l[i].a = aheadA l i))) = true := by
      unfold stepOk
      rw [hg, mayK_eq, isI_eq]
      simp only [Bool.and_eq_true, decide_eq_true_eq, beq_iff_eq, Bool.or_eq_true, Bool.not_eq_true']
      constructor
      · rintro ⟨h1, h2, h3⟩
        refine ⟨⟨h1, h2⟩, ?_⟩
        cases hb : openB l i with
        | false => exact .inl rfl
        | true => exact .inr (h3 hb)
      · rintro ⟨⟨h1, h2⟩, h3⟩
        refine ⟨h1, h2, fun hb => ?_⟩
        rcases h3 with h3 | h3
        · rw [hb] at h3; cases h3
        · exact h3
    show (_ && _ && _ && rowK (isI l[i].w 2) l[i].a (l.drop (i + 1))) = true ↔ _
    rw [Bool.and_eq_true, ← hst, ← ho, ← ha, ih (i + 1) (by omega) (by omega)]
    constructor
    · rintro ⟨h1, h2, h3⟩
      refine ⟨fun j hj1 hj2 => ?_, h3⟩
      rcases Nat.eq_or_lt_of_le hj1 with rfl | hj
      · exact h1
      · exact h2 j (by omega) hj2
    · rintro ⟨h1, h2⟩
      exact ⟨h1 i (Nat.le_refl _) hlt, fun j hj1 hj2 => h1 j (by omega) hj2, h2⟩
theorem rowK_G (l : List Ce) : (Nat.ble l.length 300 && rowK false 0 l) = decide (rowG l) := by
  have h := rowK_eq l l.length 0 rfl (Nat.zero_le _)
  rw [List.drop_zero] at h
  rw [Bool.eq_iff_iff, Bool.and_eq_true, Nat.ble_eq, decide_eq_true_eq, ← rowG_P]
  have e : rowK false 0 l = rowK (openB l 0) (aheadA l 0) l := rfl
  rw [e, h]
  constructor
  · rintro ⟨h1, h2, h3⟩; exact ⟨h1, fun j hj => h2 j (Nat.zero_le _) hj, h3⟩
  · rintro ⟨h1, h2, h3⟩; exact ⟨h1, fun j _ hj => h2 j hj, h3⟩
noncomputable def orcMay (args : List AV) : Option AV := match args with
  | [.agg [.v (.int .i32 r), .v (.int .i64 w), .v (.int .i64 a)]] => some (.v (.bool (mayK r w a)))
  | _ => none
noncomputable def orcRow (args : List AV) : Option AV := match args with
  | [.agg [.sl 3 es, .v (.bool _)]] => (cesK es).bind fun l => bif Nat.blt l.length 1000 then some (.v (.bool (Nat.ble l.length 300 && rowK false 0 l))) else none
  | [.agg [.v (.slice none 0 0), .v (.bool _)]] => some (.v (.bool true))
  | [.agg [.e0, .v (.bool _)]] => some (.v (.bool true))
  | _ => none
noncomputable abbrev EZ0 : Env := ELo (mkO fun _ _ => none)
theorem EZ0_ok : ProgOK EZ0 := ELo_ok _ fun f args x h => nomatch (show none = some x from h)

/-- A contract, as a run on an empty heap. -/
theorem wc_of {E : Env} {f : FuncId} {args : List AV} {x : AV} {tr : Tr} (hp : E.pol f = .pure) (hnf : args.all nf = true) (h : CallR E [] 0 f args .empty x .empty tr) : WC E [] 0 f args .empty fun r H => frzR H 0 r = x := by
  obtain ⟨n, hn⟩ := h
  simp only [runPlan, hp, hnf, if_true] at hn
  cases hc : (callF E (exec E n) [] 0).call false 0 f args .empty with
  | none => rw [hc] at hn; cases hn
  | some q =>
    obtain ⟨r, H'⟩ := q
    rw [hc] at hn
    dsimp only at hn
    rw [hand_pure] at hn
    simp only [fNat_eq, Option.some.injEq, Prod.mk.injEq] at hn
    refine ⟨n, r, H', hc, ?_⟩
    rw [← hn.1]
    exact renV_base _ _ _ _ _ _
theorem orcI0 : OrcI (mkO fun _ _ => none) := ⟨trivial⟩
theorem orcMay_ok (args : List AV) (x : AV) (h : orcMay args = some x) : OrcOK Tryz.prog 150 args x := by
  unfold orcMay at h
  split at h
  · rename_i r w a
    cases h
    rw [mayK_eq]
    exact orc_of_wc EZ0_ok rfl rfl (wc_of rfl rfl (haveI := orcI0; May_run (oc := mkO fun _ _ => none) (ys := []) (lo := 0) (H := .empty) r w a))
  · cases h
theorem orcRow_ok (args : List AV) (x : AV) (h : orcRow args = some x) : OrcOK Tryz.prog 106 args x := by
  have key : ∀ (A : AV) (l : List Ce) (wr : Bool), Sl 3 A (cesA l) → l.length < 1000 → OrcOK Tryz.prog 106 [rowA A wr] (.v (.bool (decide (rowG l)))) := fun A l wr hA hl => by
    haveI := orcI0
    obtain ⟨tr, _, h1⟩ := May_R (oc := mkO fun _ _ => none) (ys := []) (lo := 0) (H := .empty) (wr := wr) (.inl hA) (by omega : l.length < 2 ^ 40)
    have hnf : [rowA A wr].all nf = true := by rcases hA with rfl | ⟨_, rfl | rfl⟩ <;> rfl
    exact orc_of_wc EZ0_ok rfl hnf (wc_of rfl hnf h1)
  unfold orcRow at h
  split at h
  · rename_i es wr
    cases hk : cesK es with
    | none => rw [hk] at h; cases h
    | some l =>
      rw [hk] at h
      simp only [Option.bind_some] at h
      cases hl : Nat.blt l.length 1000 with
      | false => rw [hl] at h; cases h
      | true =>
        rw [hl] at h
        cases h
        rw [rowK_G, cesK_eq hk]
        exact key _ l _ (.inl rfl) (by rwa [Nat.blt_eq] at hl)
  · cases h; exact key _ [] _ (.inr ⟨rfl, .inr rfl⟩) (by decide)
  · cases h; exact key _ [] _ (.inr ⟨rfl, .inl rfl⟩) (by decide)
  · cases h

/-- The environments of the runs. -/
noncomputable def polB1 (f : FuncId) : Mode := if memN [150, 106] f then .orc else polLoT f
noncomputable def orcB1 : FuncId → List AV → Option AV := fun f args => bif Nat.beq f 150 then orcMay args else bif Nat.beq f 106 then orcRow args else none
theorem orcB1_ok (f : FuncId) (args : List AV) (x : AV) (h : orcB1 f args = some x) : OrcOK Tryz.prog f args x := by
  unfold orcB1 at h
  cases h1 : Nat.beq f 150 with
  | true =>
    rw [h1] at h
    rw [Nat.eq_of_beq_eq_true h1]
    exact orcMay_ok args x h
  | false =>
    rw [h1] at h
    cases h2 : Nat.beq f 106 with
    | true =>
      rw [h2] at h
      rw [Nat.eq_of_beq_eq_true h2]
      exact orcRow_ok args x h
    | false => rw [h2] at h; cases h
noncomputable def EB1 : Env := { P := Tryz.prog, pol := polB1, eqT := eqLo, frzB := frzLo, orc := orcB1 }
theorem EB1_ok : ProgOK EB1 where
  eq := EZ0_ok.eq
  mixed := EZ0_ok.mixed
  noNG := EZ0_ok.noNG
  orc := orcB1_ok
end Go.Am

namespace Go.Am
variable {oc : Orc} [OrcI oc]
open Go.Proofs
set_option maxRecDepth 100000
theorem begun7_run : isT (acall EB1 [] 3000 0 64 [] .empty) = true := by kernel_rfl
end Go.Am

namespace Go.Am
variable {oc : Orc} [OrcI oc]
open Go.Proofs
set_option maxRecDepth 100000
def tt0 (args : List AV) : Option AV := match args with
  | [] => some (.v (.bool true))
  | _ => none
noncomputable def polB2 (f : FuncId) : Mode := bif Nat.beq f 64 then .orc else polB1 f
noncomputable def orcB2 : FuncId → List AV → Option AV := fun f args => bif Nat.beq f 64 then tt0 args else orcB1 f args
noncomputable def EB2 : Env := { P := Tryz.prog, pol := polB2, eqT := eqLo, frzB := frzLo, orc := orcB2 }
theorem begun10_run : isT (acall EB2 [] 3000 0 22 [] .empty) = true := by kernel_rfl
end Go.Am

namespace Go.Am
variable {oc : Orc} [OrcI oc]
open Go.Proofs
theorem orc_isT {E : Env} (hE : ProgOK E) {P : Program} (hP : E.P = P) {n : Nat} {f : FuncId} (h : isT (acall E [] n 0 f [] .empty) = true) : OrcOK P f [] (.v (.bool true)) := by
  obtain ⟨H, h⟩ := isT_ok h
  exact orc_of_wc hE hP rfl ⟨n, _, H, h, rfl⟩
theorem tt0_eq {args : List AV} {x : AV} (h : tt0 args = some x) : args = [] ∧ x = .v (.bool true) := by
  unfold tt0 at h
  split at h
  · cases h; exact ⟨rfl, rfl⟩
  · cases h
theorem EB2_ok : ProgOK EB2 where
  eq := EZ0_ok.eq
  mixed := EZ0_ok.mixed
  noNG := EZ0_ok.noNG
  orc := fun f args x h => by
    have h' : orcB2 f args = some x := h
    unfold orcB2 at h'
    cases h1 : Nat.beq f 64 with
    | true =>
      rw [h1] at h'
      obtain ⟨rfl, rfl⟩ := tt0_eq h'
      rw [Nat.eq_of_beq_eq_true h1]
      exact orc_isT EB1_ok rfl begun7_run
    | false => rw [h1] at h'; exact orcB1_ok f args x h'
noncomputable def orcF : Orc := mkO fun f args => bif Nat.beq f 22 then tt0 args else none
instance orcIF : OrcI orcF := ⟨trivial⟩
end Go.Am
