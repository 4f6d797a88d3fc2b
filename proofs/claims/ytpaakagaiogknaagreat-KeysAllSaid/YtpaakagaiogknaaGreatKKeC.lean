
/- Keys: KeysAll, joined. -/
import Derived.Test.YtpaakagaiogknaaGreatKKeB
import Derived.Test.YtpaakagaiogknaaGreatKBek
import Derived.Maps.Views
set_option linter.all false
set_option linter.deprecated false
namespace Go.Am
variable {oc : Orc} [OrcI oc]
open Go.Proofs Go.Maps
set_option maxRecDepth 100000
set_option maxHeartbeats 4000000
theorem names_none_orc (t : Int) (h1 : t ≠ 1) (h2 : t ≠ 2) : OrcOK Tryz.prog 18 [.v (.int .i64 t)] nilA := by
  refine orc_of_calls ⟨_, _, Tryz.func18, rfl⟩ fun C vs g hA => ?_
  rw [args1 hA]
  refine (Names_none t C.w (all_none t h1 h2 C.w)).mono ?_
  rintro e w' ⟨rfl, hb⟩
  exact ⟨_, rfl, hb, .fr (.v rfl)⟩
noncomputable def nameO2 (args : List AV) : Option AV := match args with
  | [.v (.int .i64 t)] => if t = 1 then some (.sl 1 (namE viN)) else if t = 2 then some (.sl 1 (namE emN)) else some nilA
  | _ => none
theorem nameO2_ok {args : List AV} {x : AV} (h : nameO2 args = some x) : OrcOK Tryz.prog 18 args x := by
  unfold nameO2 at h
  split at h
  · rename_i t
    split at h
    · rename_i e; subst e; cases h; exact vi_orc
    · split at h
      · rename_i e; subst e; cases h; exact em_orc
      · rename_i h1 h2
        cases h
        exact names_none_orc t h1 h2
  · cases h
noncomputable def orcF2 : Orc := fun f args => bif Nat.beq f 8 then tt0 args else bif Nat.beq f 16 then deedO args else bif Nat.beq f 18 then nameO2 args else none
noncomputable abbrev EF2 : Env := ELo orcF2
theorem EF2_ok : ProgOK EF2 := ELo_ok _ fun f args x h => by
  unfold orcF2 at h
  cases h1 : Nat.beq f 8 with
  | true =>
    rw [h1] at h
    obtain ⟨rfl, rfl⟩ := tt0_eq h
    rw [Nat.eq_of_beq_eq_true h1]
    exact orc_isT EB3_ok rfl begun18_run
  | false =>
    rw [h1] at h
    cases h2 : Nat.beq f 16 with
    | true =>
      rw [h2] at h
      rw [Nat.eq_of_beq_eq_true h2]
      exact deedO_ok h
    | false =>
      rw [h2] at h
      cases h3 : Nat.beq f 18 with
      | true =>
        rw [h3] at h
        rw [Nat.eq_of_beq_eq_true h3]
        exact nameO2_ok h
      | false => rw [h3] at h; cases h
instance orcIF2 : OrcI orcF2 := ⟨trivial⟩
theorem putsD_other (l : List (ByteArray × Int)) (s : ByteArray) (z : DataW Unit) : ∀ D : DataW Unit, (∀ p ∈ l, p.1 ≠ s) → (putsD D l).atKey (.string s.data.toList) z = D.atKey (.string s.data.toList) z := by
  induction l with
  | nil => intro D _; rfl
  | cons p l ih =>
    intro D h
    rw [putsD, ih _ fun q hq => h q (List.mem_cons_of_mem _ hq)]
    exact atKey_put_other (fun e => h p List.mem_cons_self (ba_list.2 (by injection e with e; exact e.symm))) _ _
theorem deed_vi (s : ByteArray) : deedT 1 s = (refD viL s : Nat) := by
  unfold deedT
  rw [if_pos rfl]
  by_cases h : refD viL s = 0
  · rw [h]
    have hno : ∀ p ∈ viT, p.1 ≠ s := fun p hp e => by
      have : ∀ p ∈ viT, ∃ j, j < 26 ∧ (viK.getD j ByteArray.empty) = p.1 := by decide +kernel
      obtain ⟨j, hj, e2⟩ := this p hp
      exact (has_vi s).2 ⟨j, hj, e2.trans e⟩ h
    unfold atT
    rw [putsD_other viT s _ _ hno]; rfl
  · obtain ⟨j, hj, rfl⟩ := (has_vi s).1 h
    have : ∀ j, j < 26 → litI (atT (putsD (.map []) viT) (viK.getD j ByteArray.empty)) = (refD viL (viK.getD j ByteArray.empty) : Nat) := by decide +kernel
    exact this j hj
theorem deed_em (s : ByteArray) : deedT 2 s = (refD emL s : Nat) := by
  unfold deedT
  rw [if_neg (by decide), if_pos rfl]
  by_cases h : refD emL s = 0
  · rw [h]
    have hno : ∀ p ∈ emT, p.1 ≠ s := fun p hp e => by
      have : ∀ p ∈ emT, ∃ j, j < 22 ∧ (emK.getD j ByteArray.empty) = p.1 := by decide +kernel
      obtain ⟨j, hj, e2⟩ := this p hp
      exact (has_em s).2 ⟨j, hj, e2.trans e⟩ h
    unfold atT
    rw [putsD_other emT s _ _ hno]; rfl
  · obtain ⟨j, hj, rfl⟩ := (has_em s).1 h
    have : ∀ j, j < 22 → litI (atT (putsD (.map []) emT) (emK.getD j ByteArray.empty)) = (refD emL (emK.getD j ByteArray.empty) : Nat) := by decide +kernel
    exact this j hj
theorem begun_F2 {ys : List (Nat × LRec)} {lo : Nat} {H : AHeap} : CallR EF2 ys lo 8 [] H (.v (.bool true)) H ⟨0, 0, 0⟩ := callR_orc rfl rfl rfl
theorem Deed_F2 {ys : List (Nat × LRec)} {lo : Nat} {H : AHeap} (t : Int) (s : ByteArray) (hs : s.size ≤ maxLen) : CallRo EF2 ys lo 16 [.v (.int .i64 t), .v (.string s)] H (.v (.int .i64 (deedT t s))) := by
  refine callRo_orc rfl rfl ?_
  show (bif Nat.ble s.size maxLen then some (AV.v (.int .i64 (deedT t s))) else none) = _
  rw [show Nat.ble s.size maxLen = true from Nat.ble_eq_true_of_le hs]; rfl
theorem Names_F2 {ys : List (Nat × LRec)} {lo : Nat} {H : AHeap} (t : Int) (x : AV) (h : nameO2 [.v (.int .i64 t)] = some x) : CallRo EF2 ys lo 18 [.v (.int .i64 t)] H x := callRo_orc rfl rfl h
theorem KeysAll_run (t : Int) (ht : (Lit.int .i64 t).wf = true) (key : ByteArray) (hk : key.size ≤ maxLen) : WC EF2 [] 0 6 [.v (.int .i64 t), .v (.string key)] .empty fun x _ => x = .v (.bool true) := by
  have hs := hk
  refine @KeysAll_law orcF2 orcIF2 (fun ys lo H => begun_F2) t key (fun ys lo H => ?_) (fun ys lo H => ?_) (fun ys lo H h1 h2 => ?_) (fun ys lo H => Names_F2 1 _ rfl) (fun ys lo H => Names_F2 2 _ rfl) (fun ys lo H h1 h2 => Names_F2 t _ (by
    show (if t = 1 then some (AV.sl 1 (namE viN)) else if t = 2 then some (AV.sl 1 (namE emN)) else some nilA) = _
    rw [if_neg h1, if_neg h2]))
  · have := Deed_F2 (ys := ys) (lo := lo) (H := H) 1 key hs
    rw [deed_vi] at this; exact this
  · have := Deed_F2 (ys := ys) (lo := lo) (H := H) 2 key hs
    rw [deed_em] at this; exact this
  · have := Deed_F2 (ys := ys) (lo := lo) (H := H) t key hs
    have e : deedT t key = 0 := by unfold deedT; rw [if_neg h1, if_neg h2]
    rw [e] at this; exact this
end Go.Am
