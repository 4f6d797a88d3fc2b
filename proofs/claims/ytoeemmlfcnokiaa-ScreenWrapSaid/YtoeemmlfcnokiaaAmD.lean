/- Calls that make new blocks, in drawn regions. -/
import Derived.Test.YtoeemmlfcnokiaaAmY
set_option linter.all false
set_option linter.deprecated false
namespace Go.Am
set_option linter.all false
/-- A trace that reads, and writes new names alone. -/
def NcT (N : Nat) (t : Tr) : Prop := t.rd = 0 ∧ (∀ r, r < 2 ^ N → Nat.land t.wr r = 0) ∧ (t.all = 0 ∨ t.all = 1)
theorem NcT.le {N M : Nat} {t : Tr} (h : NcT M t) (hl : N ≤ M) : NcT N t := ⟨h.1, fun r hr => h.2.1 r (Nat.lt_of_lt_of_le hr (Nat.pow_le_pow_right (by omega) hl)), h.2.2⟩
theorem land_new {N k r : Nat} (h : r < 2 ^ N) : Nat.land (newBits N k) r = 0 := by
  apply Nat.eq_of_testBit_eq
  intro i
  show (2 ^ N * (2 ^ k - 1) &&& r).testBit i = _
  rw [Nat.testBit_and, Nat.zero_testBit, Nat.testBit_two_pow_mul]
  by_cases hi : N ≤ i
  · rw [Nat.testBit_lt_two_pow (Nat.lt_of_lt_of_le h (Nat.pow_le_pow_right (by omega) hi))]; simp
  · simp [hi]
theorem NcT.new (N k a : Nat) (h : a = 0 ∨ a = 1) : NcT N ⟨0, newBits N k, a⟩ := ⟨rfl, fun r hr => land_new hr, h⟩
/-- A call that hands new blocks over. -/
def CallN (E : Env) (ys : List (Nat × LRec)) (lo : Nat) (f : FuncId) (args : List AV) (H : AHeap) (x : AV) (H' : AHeap) : Prop := ∃ tr, NcT H.next tr ∧ CallR E ys lo f args H x H' tr
section
variable {E : Env} {ys : List (Nat × LRec)} {lo : Nat} {f : FuncId} {args : List AV} {H H' : AHeap} {ops rest : List Oper} {o : Oper} {acc : List Tr} {K : St → List Tr → Prop} {tm tm1 : Slots} {x : AV}
theorem RKp.callN (hc : CallN E ys lo f args H x H') (hs : putS tm o.dst x some = some tm1) (hk : ∀ tr, NcT H.next tr → RK E ys lo ops rest ⟨tm1, H'⟩ (tr :: acc) K) : RKp E ys lo ops o rest tm H acc K (.call f args) := by
  obtain ⟨tr, h1, h2⟩ := hc
  exact RKp.call h2 hs (hk tr h1)
theorem WC.ownN {x : Nat → AV} {bs : Nat → List Blk} (hpol : E.pol f = .own)
    (hc : ∀ lo' H', (lo' = H.next ∧ H' = H) ∨ (lo' = 0 ∧ H' = .empty ∧ args.all nf = true) → WC E [] lo' f args H' fun r H'' => Hands H'' lo' r x bs) : CallN E ys lo f args H (x H.next) (pushAll H (bs H.next)) := by
  cases hn : args.all nf with
  | true =>
    obtain ⟨n, r, H'', h1, h2⟩ := hc 0 .empty (.inr ⟨rfl, rfl, hn⟩)
    obtain ⟨x', bs', ⟨rfl, rfl⟩, h4⟩ := WC.own (K := fun x' bs' => x' = x ∧ bs' = bs) hpol hn ⟨n, r, H'', h1, x, bs, h2, rfl, rfl⟩
    exact ⟨_, NcT.new _ _ _ (.inl rfl), h4 ys lo H⟩
  | false =>
    obtain ⟨n, r, H'', h1, h2⟩ := hc H.next H (.inl ⟨rfl, rfl⟩)
    obtain ⟨x', bs', ⟨rfl, rfl⟩, h4⟩ := WC.ownH (K := fun x' bs' => x' = x ∧ bs' = bs) (ys := ys) (lo := lo) hpol hn ⟨n, r, H'', h1, x, bs, h2, rfl, rfl⟩
    exact ⟨_, NcT.new _ _ _ (.inr rfl), h4⟩
end
section
variable {E : Env} {ys : List (Nat × LRec)} {lo : Nat} {f : FuncId} {args : List AV} {H H' : AHeap} {x : AV}
theorem WC.effE {K : AV → AHeap → Prop} (hpol : E.pol f = .eff) (hc : WC E ys lo f args H K) : CallE E ys lo f args H K := by
  obtain ⟨x, H', h1, h2⟩ := WC.eff hpol hc
  exact ⟨x, H', _, h2, h1⟩
theorem WC.effO (hpol : E.pol f = .eff) (hc : WC E ys lo f args H fun r G => r = x ∧ G = H') : CallO E ys lo f args H x H' := by
  obtain ⟨y, G, ⟨rfl, rfl⟩, h2⟩ := WC.eff hpol hc
  exact ⟨_, h2⟩
end
inductive Kf where
  | z
  | ro
  | ra
  | nw (k : Nat)
  | nc
  | any
def KfOf (N : Nat) (t : Tr) : Kf → Prop
  | .z => KdOf N t .z
  | .ro => KdOf N t .ro
  | .ra => KdOf N t .ra
  | .nw k => KdOf N t (.nw k)
  | .nc => NcT N t
  | .any => True
def compatF : Kf → Kf → Bool
  | .z, _ | _, .z => true
  | .ro, .ro | .ro, .ra | .ra, .ro | .ra, .ra | .ro, .nw _ | .nw _, .ro | .ro, .nc | .nc, .ro => true
  | .nw j, .nw k => !(Nat.beq j k)
  | _, _ => false
theorem compatF_ok {N : Nat} {x y : Tr} {a b : Kf} (hc : compatF a b = true) (hx : KfOf N x a) (hy : KfOf N y b) : clash x y = false := by
  have z1 : ∀ r, Nat.land 0 r = 0 := Nat.zero_and
  have z2 : ∀ r, Nat.land r 0 = 0 := Nat.and_zero
  have z3 : Nat.lor 0 0 = 0 := rfl
  have z4 : ∀ r, Nat.lor r 0 = r := Nat.or_zero
  have zl : ∀ {t u : Tr}, t = ⟨0, 0, 0⟩ → clash t u = false := fun {t u} h => by subst h; exact clash_triv_l rfl
  have zr : ∀ {t u : Tr}, u = ⟨0, 0, 0⟩ → clash t u = false := fun {t u} h => by subst h; exact clash_triv_r rfl
  have ron : ∀ {t u : Tr}, KdOf N t .ro → NcT N u → clash t u = false ∧ clash u t = false := by
    intro t u h k
    obtain ⟨h1, h2, h3⟩ := h
    obtain ⟨k1, k2, k3⟩ := k
    have := k2 _ h3
    constructor
    · simp only [clash, h1, h2, k1, z1, z2, this]
      rcases k3 with k3 | k3 <;> simp only [k3] <;> rfl
    · simp only [clash, h1, h2, k1, z1, z2, z4, this]
      rcases k3 with k3 | k3 <;> simp only [k3] <;> rfl
  cases a with
  | z => exact zl hx
  | ro => cases b with
    | z => exact zr hy
    | ro => exact compat_ok (N := N) (a := .ro) (b := .ro) rfl hx hy
    | ra => exact compat_ok (N := N) (a := .ro) (b := .ra) rfl hx hy
    | nw k => exact compat_ok (N := N) (a := .ro) (b := .nw k) rfl hx hy
    | nc => exact (ron hx hy).1
    | any => cases hc
  | ra => cases b with
    | z => exact zr hy
    | ro => exact compat_ok (N := N) (a := .ra) (b := .ro) rfl hx hy
    | ra => exact compat_ok (N := N) (a := .ra) (b := .ra) rfl hx hy
    | _ => cases hc
  | nw k => cases b with
    | z => exact zr hy
    | ro => exact compat_ok (N := N) (a := .nw k) (b := .ro) rfl hx hy
    | nw j => exact compat_ok (N := N) (a := .nw k) (b := .nw j) hc hx hy
    | _ => cases hc
  | nc => cases b with
    | z => exact zr hy
    | ro => exact (ron hy hx).2
    | _ => cases hc
  | any => cases b with
    | z => exact zr hy
    | _ => cases hc
inductive KindsF (N : Nat) : List Tr → List Kf → Prop
  | nil : KindsF N [] []
  | cons {t : Tr} {k : Kf} {T : List Tr} {K : List Kf} : KfOf N t k → KindsF N T K → KindsF N (t :: T) (k :: K)
def okKF : List Nat → List Kf → Nat → List (Nat × Kf) → Bool
  | _, [], _, _ => true
  | [], _ :: _, _, _ => false
  | a :: as, k :: ks, i, pre => (pre.all fun p => bit a p.1 || compatF p.2 k) && okKF as ks (i + 1) ((i, k) :: pre)
theorem okPairs_kF' {N : Nat} {T : List Tr} {K : List Kf} (h : KindsF N T K) : ∀ (as : List Nat) (i : Nat) (pre : List (Nat × Tr)) (preK : List (Nat × Kf)), okKF as K i preK = true →
    (∀ p ∈ pre, ∃ k, (p.1, k) ∈ preK ∧ KfOf N p.2 k) → okPairs as T i pre = true := by
  induction h with
  | nil => intro as i pre preK _ _; simp [okPairs]
  | @cons t k T K ht _ ih =>
    intro as i pre preK hk hp
    cases as with
    | nil => cases hk
    | cons a as =>
      simp only [okKF, Bool.and_eq_true] at hk
      simp only [okPairs, fNat_eq]
      have hp' : ∀ p ∈ pre, ∃ k', (p.1, k') ∈ (i, k) :: preK ∧ KfOf N p.2 k' := fun p h => by
        obtain ⟨k', h1, h2⟩ := hp p h
        exact ⟨k', List.mem_cons_of_mem _ h1, h2⟩
      split
      · exact ih _ _ _ _ hk.2 hp'
      · have : (pre.all fun p => bit a p.1 || !clash p.2 t) = true := List.all_eq_true.2 fun p hpm => by
          obtain ⟨k', h1, h2⟩ := hp p hpm
          have := List.all_eq_true.1 hk.1 _ h1
          simp only [Bool.or_eq_true] at this ⊢
          rcases this with h | h
          · exact .inl h
          · exact .inr (by rw [compatF_ok h h2 ht]; rfl)
        rw [this]
        refine ih _ _ _ _ hk.2 fun p hpm => ?_
        rcases List.mem_cons.1 hpm with rfl | hpm
        · exact ⟨k, List.mem_cons_self, ht⟩
        · exact hp' p hpm
theorem KindsF.z {N : Nat} {T : List Tr} {K : List Kf} (ht : KindsF N T K) : KindsF N (⟨0, 0, 0⟩ :: T) (.z :: K) := .cons rfl ht
theorem KindsF.ro {N : Nat} {T : List Tr} {K : List Kf} {r : Nat} (h : r < 2 ^ N) (ht : KindsF N T K) : KindsF N (⟨r, 0, 0⟩ :: T) (.ro :: K) := .cons ⟨rfl, rfl, h⟩ ht
theorem KindsF.rd {N : Nat} {T : List Tr} {K : List Kf} {x : AV} (h : (rdTr x).rd < 2 ^ N) (ht : KindsF N T K) : KindsF N (rdTr x :: T) (.ro :: K) := .cons (rdTr_ro h) ht
theorem KindsF.ra {N : Nat} {T : List Tr} {K : List Kf} {t : Tr} (h : RoT t) (ht : KindsF N T K) : KindsF N (t :: T) (.ra :: K) := .cons h ht
theorem KindsF.nc {N M : Nat} {T : List Tr} {K : List Kf} {t : Tr} (h : NcT M t) (hl : N ≤ M) (ht : KindsF N T K) : KindsF N (t :: T) (.nc :: K) := .cons (h.le hl) ht
theorem KindsF.nw {N : Nat} {T : List Tr} {K : List Kf} {r n : Nat} (k : Nat) (hn : n = N + k) (h : r < 2 ^ N) (ht : KindsF N T K) : KindsF N (⟨r, 2 ^ n, 0⟩ :: T) (.nw k :: K) := .cons ⟨by rw [hn], rfl, h⟩ ht
theorem KindsF.any {N : Nat} {T : List Tr} {K : List Kf} {t : Tr} (ht : KindsF N T K) : KindsF N (t :: T) (.any :: K) := .cons trivial ht
theorem zgk {N : Nat} {T : List Tr} {K : List Kf} (h : KindsF N T K := by (first | ((repeat (first | exact KindsF.nil | apply KindsF.z | (apply KindsF.ro; (focus (exact zR))) | (apply KindsF.rd; (focus (exact zR))) | (apply KindsF.nw 0; (focus (exact zO)); (focus (exact zR))) | (apply KindsF.nw 1; (focus (exact zO)); (focus (exact zR))) | (apply KindsF.nw 2; (focus (exact zO)); (focus (exact zR))) | (apply KindsF.nc; (focus assumption); (focus (exact zO))) | (apply KindsF.ra; (focus (first | exact RoT.zero | exact RoT.rd | exact RoT.all | exact RoT.rdTr _ | assumption))) | apply KindsF.any)); done) | fail)) : KindsF N T K := h
theorem zgc {N : Nat} {l : List Oper} {Q : AX → St → Prop} {s : St} {T T' : List Tr} {K : List Kf} (q : Q .normal s) (hT : T = T' := by ((simp only [List.reverse_cons, List.reverse_nil, List.nil_append, List.cons_append]); rfl)) (hk : KindsF N T' K := by exact zgk) (ho : okKF (aheads l [] 0) K 0 [] = true := by decide +kernel) : DrawK l N Q s T := ⟨by rw [hT]; exact okPairs_kF' hk (aheads l [] 0) 0 [] [] ho (fun p hp => by cases hp), q⟩
end Go.Am
