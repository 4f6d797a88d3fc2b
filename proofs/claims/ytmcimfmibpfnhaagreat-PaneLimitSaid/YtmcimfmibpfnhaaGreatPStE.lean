
/- The store: a row more. -/
import Derived.Test.YtmcimfmibpfnhaaGreatPStD
set_option linter.all false
set_option linter.deprecated false
namespace Go.Am
variable {oc : Orc} [OrcI oc] [OrcF oc]
open Go.Proofs
set_option maxRecDepth 8000
set_option maxHeartbeats 8000000
section
variable {ys : List (Nat × LRec)} {lo : Nat} {H : AHeap} {h sh : Nat} {s : StN} {lim n : Int}
theorem app_pg : appInfo (ELo oc).P 141 = some (152, 8, 1) := by kernel_rfl

/-- A page more in the pages' slice. -/
theorem StOk.app (hS : StOk H h s lim n) (hlo : ∀ k ∈ s.names h, lo ≤ k) (hl : s.pgs.length < 2 ^ 40) {G : AHeap} (hx : Ext H G) {q : Nat} (hq : H.next ≤ q) (b : Blk) (hb : b = ⟨152, 1, 0, [[.op q 0 0 0]], none⟩) : ∃ m e G' tr, primL lo (G.push b) (appendA (ELo oc) 141 s.P (.os G.next 0 0 1)) = some (.os m e 0 (s.pgs.length + 1), G', tr) ∧ G'.get m = some ⟨152, 1, e, s.pgs.map pgA ++ [[.op q 0 0 0]], none⟩ ∧ (s.pn = [m] ∨ s.pn = [] ∧ m = G.next + 1) ∧ m < G'.next ∧ G.next + 1 ≤ G'.next ∧ G'.js = G.js ∧ ∀ k, k < G.next + 1 → k ≠ m → G'.get k = (G.push b).get k := by
  have hxn := hx.next
  have hy : SlH (G.push b) 1 (.os G.next 0 0 1) [[.op q 0 0 0]] := .inr ⟨G.next, 0, 0, _, rfl, by (first | omega | (simp only [next_push, next_set, next_empty]; done) | (simp only [next_push, next_set, next_empty]; omega)), by rw [get_push, if_pos rfl], by rw [hb], by rw [hb], by rw [hb], by rw [hb]; simp, by rw [hb]; rfl⟩
  rcases hS.pp with ⟨h1, h2, h3⟩ | ⟨m, e, pre, h1, h2, h3, h4⟩
  · rw [h1, h3]
    refine ⟨_, _, _, _, append_new (ELo oc) lo (.inr rfl) app_pg hy (by simp) (by unfold roomMax; simp), ?_, .inr ⟨h2, rfl⟩, by (first | omega | (simp only [next_push, next_set, next_empty]; done) | (simp only [next_push, next_set, next_empty]; omega)), by (first | omega | (simp only [next_push, next_set, next_empty]; done) | (simp only [next_push, next_set, next_empty]; omega)), rfl, fun k hk hkm => ?_⟩
    · rw [get_push, if_pos rfl]; rfl
    · rw [get_push, if_neg (by rw [next_push]; omega)]
  · have hml : lo ≤ m := hlo m (by unfold StN.names; rw [h2]; simp)
    have hgm : (G.push b).get m = some ⟨152, 1, e, pre ++ s.pgs.map pgA, none⟩ := by rw [get_push, if_neg (by omega), hx.get m h3]; exact h4
    obtain ⟨tr, hap⟩ := append_os (ELo oc) lo (t := 141) (off := pre.length) (len := s.pgs.length) app_pg hgm ⟨rfl, rfl, by simp, rfl, rfl⟩ hy (fun m' e' off' len' z => by cases z; omega) (by simp) (by unfold roomMax; simp; omega) hml
    rw [h1]
    refine ⟨_, _, _, tr, hap, ?_, .inl h2, by (first | omega | (simp only [next_push, next_set, next_empty]; done) | (simp only [next_push, next_set, next_empty]; omega)), by (first | omega | (simp only [next_push, next_set, next_empty]; done) | (simp only [next_push, next_set, next_empty]; omega)), rfl, fun k hk hkm => ?_⟩
    · rw [get_set, if_pos rfl, List.drop_left, List.take_of_length_le (by simp)]
    · rw [get_set, if_neg (fun z => hkm z.symm)]
theorem names_last {a : List Pg} {p p' : Pg} (hq : p'.q = p.q) (hm : p'.m = p.m) : pgNames (a ++ [p']) = pgNames (a ++ [p]) := by
  rw [pgNames_app, pgNames_app, pgNames_one, pgNames_one, hq, hm]

/-- A row more on the last page. -/
theorem StOk.addLast (hS : StOk H h s lim n) {a : List Pg} {p p' : Pg} (hp : s.pgs = a ++ [p]) (hq : p'.q = p.q) (hm : p'.m = p.m) {H' : AHeap} (ht : Turn (fun k => k = p.q ∨ k = p.m) H H') (hp' : PgOk H' p') (n' : Int) : StOk (H'.set h (stBlk lim s.P n' s.gone)) h { s with pgs := a ++ [p'] } lim n' := by
  have hnd := hS.nd
  unfold StN.names at hnd
  rw [hp] at hnd
  have hnd0 := hnd
  rw [List.nodup_cons] at hnd
  obtain ⟨n1, n2⟩ := hnd
  obtain ⟨n3, n4, n5⟩ := List.nodup_append.1 n2
  rw [pgNames_app] at n4
  obtain ⟨n6, n7, n8⟩ := List.nodup_append.1 n4
  have hpq : p.q ∈ pgNames (a ++ [p]) := (mem_pgNames (by simp)).1
  have hpm : p.m ∈ pgNames (a ++ [p]) := (mem_pgNames (by simp)).2
  have hhl := ht.next
  refine ⟨Nat.lt_of_lt_of_le hS.hl ht.next, by rw [get_set, if_pos rfl], ?_, fun x hx => ?_, ?_⟩
  · rcases hS.pp with ⟨_, _, z⟩ | ⟨m, e, pre, q1, q2, q3, q4⟩
    · rw [hp] at z; simp at z
    · have hms : m ∈ s.pn := by rw [q2]; simp
      have g1 : ¬ h = m := fun z => n1 (List.mem_append_left _ (by rw [z]; exact hms))
      refine .inr ⟨m, e, pre, by rw [q1, hp]; simp, q2, Nat.lt_of_lt_of_le q3 ht.next, ?_⟩
      have e1 : (a ++ [p']).map pgA = (a ++ [p]).map pgA := by
        rw [List.map_append, List.map_append]
        congr 1
        show [pgA p'] = [pgA p]
        unfold pgA; rw [hq]
      rw [get_set, if_neg g1, ht.keep m q3 (by rintro (z | z); exact n5 m hms _ hpq z; exact n5 m hms _ hpm z), q4, hp]
      show _ = some (⟨152, 1, e, pre ++ (a ++ [p']).map pgA, none⟩ : Blk)
      rw [e1]
  · rcases List.mem_append.1 hx with hx | hx
    · have hxs := hS.pg x (by rw [hp]; exact List.mem_append_left _ hx)
      have hxn := mem_pgNames hx
      have hx1 := hxs.turn ht (by rintro (z | z); exact n8 _ hxn.1 p.q (by simp [pgNames]) z; exact n8 _ hxn.1 p.m (by simp [pgNames]) z) (by rintro (z | z); exact n8 _ hxn.2 p.q (by simp [pgNames]) z; exact n8 _ hxn.2 p.m (by simp [pgNames]) z)
      refine hx1.turn (F := fun k => k = h) ((Turn.refl _ _).set h _ (.inl rfl)) ?_ ?_
      · intro z; exact n1 (List.mem_append_right _ (by rw [pgNames_app, ← z]; exact List.mem_append_left _ hxn.1))
      · intro z; exact n1 (List.mem_append_right _ (by rw [pgNames_app, ← z]; exact List.mem_append_left _ hxn.2))
    · rw [List.mem_singleton] at hx
      subst hx
      refine hp'.turn (F := fun k => k = h) ((Turn.refl _ _).set h _ (.inl rfl)) ?_ ?_
      · intro z; exact n1 (List.mem_append_right _ (by rw [← z, hq]; exact hpq))
      · intro z; exact n1 (List.mem_append_right _ (by rw [← z, hm]; exact hpm))
  · unfold StN.names
    rw [names_last hq hm]
    exact hnd0

/-- A row on a new page. -/
theorem StOk.addNew (hS : StOk H h s lim n) {G G' H5 : AHeap} {q m e m5 : Nat} {r : Rw} {b : Blk} (hx : Ext H G) (hxj : G.js = H.js) (hq : H.next ≤ q) (hqG : q < G.next) (hgm : G'.get m = some ⟨152, 1, e, s.pgs.map pgA ++ [[.op q 0 0 0]], none⟩) (hm : s.pn = [m] ∨ s.pn = [] ∧ m = G.next + 1) (hml : m < G'.next) (hGn : G.next + 1 ≤ G'.next) (hGj : G'.js = G.js) (hkeep : ∀ k, k < G.next + 1 → k ≠ m → G'.get k = (G.push b).get k) (ht5 : Turn (fun k => k = q) (G'.set h (stBlk lim (.os m e 0 (s.pgs.length + 1)) n s.gone)) H5) (hp5 : PgOk H5 ⟨q, m5, 0, [], [r]⟩) (hm5 : G'.next ≤ m5) (n' : Int) :
    StOk (H5.set h (stBlk lim (.os m e 0 (s.pgs.length + 1)) n' s.gone)) h ⟨.os m e 0 (s.pgs.length + 1), [m], s.pgs ++ [⟨q, m5, 0, [], [r]⟩], s.gone⟩ lim n' ∧ Turn (fun k => k ∈ s.names h) H (H5.set h (stBlk lim (.os m e 0 (s.pgs.length + 1)) n' s.gone)) ∧ (∀ k ∈ h :: ([m] ++ pgNames (s.pgs ++ [⟨q, m5, 0, [], [r]⟩])), k ∈ s.names h ∨ H.next ≤ k ∧ k < H5.next) := by
  have hxn := hx.next
  have hnd := hS.nd
  have hlt := hS.lt
  unfold StN.names at hnd hlt
  rw [List.nodup_cons] at hnd
  obtain ⟨n1, n2⟩ := hnd
  obtain ⟨n3, n4, n5⟩ := List.nodup_append.1 n2
  have t5 := ht5.next
  rw [next_set] at t5
  have hhl := hS.hl
  have hmn : ∀ k ∈ pgNames s.pgs, k ≠ m := fun k hk => by
    have hk1 := hlt k (List.mem_cons_of_mem _ (List.mem_append_right _ hk))
    rcases hm with z | ⟨_, z⟩
    · exact fun y => n5 m (by rw [z]; simp) k hk y.symm
    · omega
  have hmh : h ≠ m := by
    rcases hm with z | ⟨_, z⟩
    · exact fun y => n1 (List.mem_append_left _ (by rw [z, y]; simp))
    · omega
  have hmq : m ≠ q := by
    rcases hm with z | ⟨_, z⟩
    · have := hlt m (List.mem_cons_of_mem _ (List.mem_append_left _ (by rw [z]; simp))); omega
    · omega
  have hk5 : ∀ k, k < H.next → k ≠ h → k ≠ m → H5.get k = H.get k := fun k h1 h2 h3 => by
    rw [ht5.keep k (by rw [next_set]; omega) (by omega), get_set, if_neg (fun z => h2 z.symm), hkeep k (by omega) h3, get_push, if_neg (by omega), hx.get k h1]
  have hjs : H5.js = H.js := by rw [ht5.js]; show G'.js = _; rw [hGj, hxj]
  have hnm : ∀ k ∈ h :: ([m] ++ pgNames (s.pgs ++ [⟨q, m5, 0, [], [r]⟩])), k ∈ s.names h ∨ H.next ≤ k ∧ k < H5.next := fun k hk => by
    have g5 := hp5.ml
    have g6 : m5 < H5.next := g5
    rw [pgNames_app, pgNames_one] at hk
    simp only [List.mem_cons, List.mem_append, List.not_mem_nil, or_false, List.cons_append, List.nil_append] at hk
    unfold StN.names
    rcases hk with rfl | rfl | hk | rfl | rfl
    · exact .inl List.mem_cons_self
    · rcases hm with z | ⟨_, z⟩
      · left; rw [z]; simp
      · right; omega
    · left; exact List.mem_cons_of_mem _ (List.mem_append_right _ hk)
    · right; omega
    · right; omega
  refine ⟨⟨by rw [next_set]; omega, by rw [get_set, if_pos rfl], .inr ⟨m, e, [], by simp, rfl, by rw [next_set]; omega, ?_⟩, fun x hx' => ?_, ?_⟩, ⟨by rw [next_set]; omega, hjs, fun k h1 h2 => ?_⟩, hnm⟩
  · rw [get_set, if_neg hmh, ht5.keep m (by rw [next_set]; omega) hmq, get_set, if_neg hmh, hgm]
    simp [pgA]
  · rcases List.mem_append.1 hx' with hx' | hx'
    · have hxs := hS.pg x hx'
      have hxn' := mem_pgNames hx'
      have g1 : x.q ≠ h := fun z => n1 (List.mem_append_right _ (by rw [← z]; exact hxn'.1))
      have g2 : x.m ≠ h := fun z => n1 (List.mem_append_right _ (by rw [← z]; exact hxn'.2))
      have g3 := hxs.ql
      have g4 := hxs.ml
      exact ⟨by rw [next_set]; omega, by rw [next_set]; omega, hxs.ne, by rw [get_set, if_neg (fun z => g1 z.symm), hk5 _ hxs.ql g1 (hmn _ hxn'.1)]; exact hxs.bq, by rw [get_set, if_neg (fun z => g2 z.symm), hk5 _ hxs.ml g2 (hmn _ hxn'.2)]; exact hxs.bm, hxs.ok, hxs.ln⟩
    · rw [List.mem_singleton] at hx'
      subst hx'
      exact hp5.turn (F := fun k => k = h) ((Turn.refl _ _).set h _ (.inl rfl)) (by show ¬ q = h; omega) (by show ¬ m5 = h; omega)
  · unfold StN.names
    rw [pgNames_app, pgNames_one]
    have hlq : ∀ k ∈ pgNames s.pgs, k < H.next := fun k hk => hlt k (List.mem_cons_of_mem _ (List.mem_append_right _ hk))
    have hne : q ≠ m5 := hp5.ne
    rw [List.nodup_cons]
    refine ⟨?_, ?_⟩
    · simp only [List.mem_cons, List.mem_append, List.not_mem_nil, or_false, not_or]
      exact ⟨hmh, fun z => n1 (List.mem_append_right _ z), by omega, by omega⟩
    · show (m :: (pgNames s.pgs ++ [q, m5])).Nodup
      rw [List.nodup_cons]
      refine ⟨?_, ?_⟩
      · simp only [List.mem_cons, List.mem_append, List.not_mem_nil, or_false, not_or]
        exact ⟨fun z => hmn _ z rfl, hmq, by omega⟩
      · rw [List.nodup_append]
        refine ⟨n4, by simp [hne], fun a ha b hb => ?_⟩
        have := hlq a ha
        simp only [List.mem_cons, List.not_mem_nil, or_false] at hb
        omega
  · rw [get_set, if_neg (fun z => h2 (by rw [← z]; exact List.mem_cons_self))]
    refine hk5 k h1 (fun z => h2 (by rw [z]; exact List.mem_cons_self)) fun z => ?_
    rcases hm with y | ⟨_, y⟩
    · exact h2 (by unfold StN.names; rw [y, z]; simp)
    · omega
theorem ST.fin {G : Nat → Prop} {H6 H7 : AHeap} {s6 s7 : StN} {n7 : Int} {rows : List Rw} (hk : ∀ k ∈ s.names h, G k) (hGl : ∀ k, G k → k < H.next) (hl0 : 0 ≤ lim) (ht6 : Turn (fun k => k ∈ s.names h) H H6) (hn6 : ∀ k ∈ s6.names h, k ∈ s.names h ∨ H.next ≤ k ∧ k < H6.next) (q1 : StOk H7 h s7 lim n7) (q2 : StG s7 n7) (q3 : pgRows s7.pgs = rows) (q4 : ∀ k ∈ s7.names h, k ∈ s6.names h) (q5 : Turn (fun k => k ∈ s6.names h) H6 H7) : ST H7 (grow G H H7) h lim rows ∧ Turn G H H7 := by
  have t6 := ht6.next
  have t7 := q5.next
  have ht : Turn G H H7 := ⟨by omega, by rw [q5.js, ht6.js], fun k h1 h2 => by
    rw [q5.keep k (by omega) (fun z => by
      rcases hn6 k z with y | y
      · exact h2 (hk k y)
      · omega), ht6.keep k h1 (fun z => h2 (hk k z))]⟩
  refine ⟨⟨⟨s7, n7, q1, q2, q3, fun k hk7 => ?_⟩, fun k hk7 => ?_, hl0⟩, ht⟩
  · rcases hn6 k (q4 k hk7) with y | y
    · exact .inl (hk k y)
    · exact .inr ⟨y.1, by omega⟩
  · rcases hk7 with y | y
    · have := hGl k y; omega
    · exact y.2
theorem Add_run {G : Nat → Prop} {rows : List Rw} (hT : ST H G sh lim rows) (hlo : ∀ k, G k → lo ≤ k) (hrl : rows.length < 2 ^ 39) (r : Rw) (hr : rwOk r) : CallE (ELo oc) ys lo 86 [.op sh 0 0 0, rowA (.sl 3 (cesA r.1)) r.2] H fun x H' => ST H' (grow G H H') sh lim (cutR lim (rows ++ [r])) ∧ Turn G H H' := by
  refine WC.effE rfl ?_
  obtain ⟨s, n, hS, hg, hrw, hk⟩ := hT.ex
  have hb := hS.blk
  have hhl := hS.hl
  have hlh := hlo sh (hk sh List.mem_cons_self)
  have hcP := hS.cell
  have hnn := hg.n
  have hsl := hS.sl
  have hnH : ¬ H.next = sh := by omega
  have hM : ∀ ys G, CallRo (ELo oc) ys lo 106 [rowA (.sl 3 (cesA r.1)) r.2] G (.v (.bool true)) := fun ys G => by
    have := May_R (ys := ys) (lo := lo) (H := G) (wr := r.2) (l := r.1) (.inl (.inl rfl)) (by have := hr.1.1; omega)
    rw [decide_eq_true hr.1] at this; exact this
  have hbG : ∀ b, (H.push b).get sh = some (stBlk lim s.P n s.gone) := fun b => by rw [get_push, if_neg hnH]; exact hb
  unfold stBlk at hb hbG
  have hpl := pgs_len hg.nz
  have hrl2 : (pgRows s.pgs).length = rows.length := by rw [hrw]
  have hwN : IntKind.i64.wrap (((s.pgs.length + 1 : Nat) : Int) - 1) = (s.pgs.length : Int) := by rw [IntWalk.i64_in _ (by omega)]; omega
  have hb3 : (((H.push ⟨48, 2, 0, [[.sl 3 (cesA r.1), .v (.bool r.2)]], none⟩).push (pgBlk nilA)).push ⟨152, 1, 0, [[.op (H.next + 1) 0 0 0]], none⟩).get sh = some (stBlk lim s.P n s.gone) := by
    rw [get_push, if_neg (by (first | omega | (simp only [next_push, next_set, next_empty]; done) | (simp only [next_push, next_set, next_empty]; omega))), get_push, if_neg (by (first | omega | (simp only [next_push, next_set, next_empty]; done) | (simp only [next_push, next_set, next_empty]; omega)))]; exact hbG _
  obtain ⟨m, e, G', trA, hap, hgm, hmp, hml, hGn, hGj, hkp⟩ := hS.app (lo := lo) (fun k hkk => hlo k (hk k hkk)) (by omega : s.pgs.length < 2 ^ 40) (((Ext.refl H).push ⟨48, 2, 0, [[.sl 3 (cesA r.1), .v (.bool r.2)]], none⟩).push (pgBlk nilA)) (q := H.next + 1) (by omega) ⟨152, 1, 0, [[.op (H.next + 1) 0 0 0]], none⟩ rfl
  have hGx : ((H.push (⟨48, 2, 0, [[.sl 3 (cesA r.1), .v (.bool r.2)]], none⟩ : Blk)).push (pgBlk nilA)).next = H.next + 2 := rfl
  rw [hGx] at hap hmp hGn hkp
  have hmh : m ≠ sh := by
    rcases hmp with z | ⟨_, z⟩
    · intro y
      have hnd := hS.nd
      unfold StN.names at hnd
      rw [List.nodup_cons] at hnd
      exact hnd.1 (List.mem_append_left _ (by rw [z, y]; simp))
    · omega
  have hgh : G'.get sh = some (stBlk lim s.P n s.gone) := by rw [hkp sh (by omega) (fun z => hmh z.symm)]; exact hb3
  have hmq : m ≠ H.next + 1 := by
    rcases hmp with z | ⟨_, z⟩
    · have := hS.lt m (by unfold StN.names; rw [z]; simp); omega
    · omega
  have hqq : (G'.set sh (stBlk lim (.os m e 0 (s.pgs.length + 1)) n s.gone)).get (H.next + 1) = some (pgBlk nilA) := by
    rw [get_set, if_neg (by omega), hkp _ (by omega) (fun z => hmq z.symm), get_push, if_neg (by (first | omega | (simp only [next_push, next_set, next_empty]; done) | (simp only [next_push, next_set, next_empty]; omega))), get_push, if_pos (by (first | omega | (simp only [next_push, next_set, next_empty]; done) | (simp only [next_push, next_set, next_empty]; omega)))]
  have hgr : G'.get H.next = some ⟨48, 2, 0, [[.sl 3 (cesA r.1), .v (.bool r.2)]], none⟩ := by
    rw [hkp _ (by omega) (by rcases hmp with z | ⟨_, z⟩; have := hS.lt m (by unfold StN.names; rw [z]; simp); omega; omega), get_push, if_neg (by (first | omega | (simp only [next_push, next_set, next_empty]; done) | (simp only [next_push, next_set, next_empty]; omega))), get_push, if_neg (by (first | omega | (simp only [next_push, next_set, next_empty]; done) | (simp only [next_push, next_set, next_empty]; omega))), get_push, if_pos rfl]
  have hA0 := fun ys => pageAdd0_run (ys := ys) (lo := lo) hqq (by rw [next_set]; omega) (by omega) r hr
  have hslN : SlH (G'.set sh (stBlk lim (.os m e 0 (s.pgs.length + 1)) n s.gone)) 1 (.os m e 0 (s.pgs.length + 1)) (s.pgs.map pgA ++ [[.op (H.next + 1) 0 0 0]]) := .inr ⟨m, e, 0, _, by simp, by rw [next_set]; exact hml, by rw [get_set, if_neg (fun z => hmh z.symm)]; exact hgm, rfl, rfl, rfl, by simp, by rw [List.drop_zero]; exact List.take_of_length_le (Nat.le_refl _)⟩
  have hlnN : (s.pgs.map pgA ++ [[AV.op (H.next + 1) 0 0 0]]).length = s.pgs.length + 1 := by simp
  have lnN := fun G x => len_SlH (ELo oc) lo 141 3 (hslN.ext (H := G) x) (by kernel_rfl)
  have ixN := fun G x => ix_SlH (ELo oc) lo 141 .i64 (s.pgs.length : Int) (hslN.ext (H := G) x) (by kernel_rfl) (by omega) (by rw [hlnN]; omega)
  have ldN : ∀ G, Ext _ G → primL lo G (loadA (ELo oc) 152 (ixA (.os m e 0 (s.pgs.length + 1)) (s.pgs.map pgA ++ [[.op (H.next + 1) 0 0 0]]) s.pgs.length)) = some (.op (H.next + 1) 0 0 0, G, rdTr (.os m e 0 (s.pgs.length + 1))) := fun G x => by
    rw [load_SlH (ELo oc) lo 152 s.pgs.length (hslN.ext x) (by rw [hlnN]; omega)]
    have : nth [] (s.pgs.map pgA ++ [[AV.op (H.next + 1) 0 0 0]]) s.pgs.length = [.op (H.next + 1) 0 0 0] := by
      rw [nth_app1, if_neg (by simp), if_pos (by simp)]
    rw [this]; rfl
  rw [hlnN] at lnN
  rcases last_cases s.pgs with he | ⟨a, p, he⟩
  · have hl0 : s.pgs.length = 0 := by rw [he]; rfl
    have hfull : ∀ a p, s.pgs = a ++ [p] → p.l.length = 16 := fun a p z => by rw [he] at z; simp at z
    refine zvin Tryz.func86 Tryz.ntmps86 ?_
    repeat' (first | refine zka ?_ | refine zkb ?_ | (apply RKp.op; ((try simp (disch := (first | exact zQ | fail)) only [hbG, hlh, hcP, lenS lo hsl, hap, hgh, hgr, lnN, hwN, ixN, ldN, Int.toNat_natCast, go_sem]); exact zL); rfl) | (apply RKp.callR; (apply hM <;> (exact zD)); rfl; intro tr htr) | (apply RKp.callE; (apply hA0 <;> (exact zD)); (intro x; rfl)) | (apply RKp.callN; (apply pageNew_run <;> (exact zD)); rfl; intro tr htr) | refine zkc ?_ | refine zz ?_ | refine zkd ?_ | refine zke ?_ | refine zkf ?_ | (refine RKg.split (fun h => ?_) (fun h => ?_) <;> (try rw [h]) <;> (replace h := zB h) <;> (try (exfalso; first | exact h | omega))) | refine zbt ?_ | apply V.regK | refine zva ?_ | refine zvb ?_ | refine zgc ?_ | refine zvd ?_ | refine zve ?_ | (refine zvf (fun h => ?_) (fun h => ?_) <;> (replace h := zB h) <;> (try (exfalso; first | exact h | omega))) | (refine zfc Tryz.results86 ?_; (try dsimp only)))
    rintro x5 H5 tr5 ⟨rfl, ⟨m5, hp5, hm5⟩, ht5⟩
    have t5 := ht5.next
    rw [next_set] at t5 hm5
    have hb5 : H5.get sh = some (stBlk lim (.os m e 0 (s.pgs.length + 1)) n s.gone) := by rw [ht5.keep sh (by rw [next_set]; omega) (by omega), get_set, if_pos rfl]
    obtain ⟨hS6, ht6, hn6⟩ := hS.addNew (((Ext.refl H).push ⟨48, 2, 0, [[.sl 3 (cesA r.1), .v (.bool r.2)]], none⟩).push (pgBlk nilA)) rfl (by omega) (by (first | omega | (simp only [next_push, next_set, next_empty]; done) | (simp only [next_push, next_set, next_empty]; omega))) hgm (by rw [hGx]; exact hmp) hml (by rw [hGx]; omega) hGj (fun k hk1 hk2 => hkp k (by rw [hGx] at hk1; omega) hk2) ht5 hp5 hm5 (n + 1)
    have hg6 : StG ⟨.os m e 0 (s.pgs.length + 1), [m], s.pgs ++ [⟨H.next + 1, m5, 0, [], [r]⟩], s.gone⟩ (n + 1) := by
      refine ⟨?_, fun x hx => ?_, hg.fl.snoc hfull _⟩
      · show n + 1 = ((pgRows (s.pgs ++ [⟨H.next + 1, m5, 0, [], [r]⟩])).length : Int)
        rw [pgRows_app, pgRows_one, List.length_append, hnn]; simp
      · rcases List.mem_append.1 hx with hx | hx
        · exact hg.nz x hx
        · rw [List.mem_singleton.1 hx]; simp
    have hlo6 : ∀ k ∈ sh :: ([m] ++ pgNames (s.pgs ++ [⟨H.next + 1, m5, 0, [], [r]⟩])), lo ≤ k := fun k hk1 => by
      rcases hn6 k hk1 with z | z
      · exact hlo k (hk k z)
      · omega
    have hC := fun ys => cuts_E (ys := ys) (lo := lo) hS6 hg6 hT.l0 hlo6 (by omega)
    repeat' (first | refine zka ?_ | refine zkb ?_ | (apply RKp.op; ((try simp (disch := (first | exact zQ | fail)) only [hb5, hlh, go_sem]); exact zL); rfl) | (apply RKp.callE; (apply hC <;> (exact zD)); (intro x; rfl)) | refine zkc ?_ | refine zz ?_ | refine zkd ?_ | refine zke ?_ | refine zkf ?_ | (refine RKg.split (fun h => ?_) (fun h => ?_) <;> (try rw [h]) <;> (replace h := zB h) <;> (try (exfalso; first | exact h | omega))) | refine zbt ?_ | apply V.regK | refine zva ?_ | refine zvb ?_ | refine zgc ?_ | refine zvd ?_ | refine zve ?_ | (refine zvf (fun h => ?_) (fun h => ?_) <;> (replace h := zB h) <;> (try (exfalso; first | exact h | omega))) | (refine zfc Tryz.results86 ?_; (try dsimp only)))
    rintro x7 H7 tr7 ⟨s7, n7, q1, q2, q3, q4, q5⟩
    repeat' (first | refine zka ?_ | refine zkb ?_ | (apply RKp.op; ((try simp (disch := (first | exact zQ | fail)) only [go_sem]); exact zL); rfl) | refine zkc ?_ | refine zz ?_ | refine zkd ?_ | refine zke ?_ | refine zkf ?_ | (refine RKg.split (fun h => ?_) (fun h => ?_) <;> (try rw [h]) <;> (replace h := zB h) <;> (try (exfalso; first | exact h | omega))) | refine zbt ?_ | apply V.regK | refine zva ?_ | refine zvb ?_ | refine zgc ?_ | refine zvd ?_ | refine zve ?_ | (refine zvf (fun h => ?_) (fun h => ?_) <;> (replace h := zB h) <;> (try (exfalso; first | exact h | omega))) | (refine zfc Tryz.results86 ?_; (try dsimp only)))
    have q3' : pgRows s7.pgs = cutR lim (rows ++ [r]) := by
      rw [q3]
      show cutR lim (pgRows (s.pgs ++ [⟨H.next + 1, m5, 0, [], [r]⟩])) = _
      rw [pgRows_app, pgRows_one, hrw]
    exact ST.fin (s6 := ⟨.os m e 0 (s.pgs.length + 1), [m], s.pgs ++ [(⟨H.next + 1, m5, 0, [], [r]⟩ : Pg)], s.gone⟩) hk hT.lt hT.l0 ht6 (fun k hk1 => hn6 k hk1) q1 q2 q3' q4 q5
  · have hl1 : s.pgs.length = a.length + 1 := by rw [he]; simp
    have hpm : p ∈ s.pgs := by rw [he]; simp
    have hp0 := hS.pg p hpm
    have hLen := fun ys G (x : Ext H G) => pageLen_run (ys := ys) (lo := lo) (hp0.ext x)
    have ixL := fun G (x : Ext H G) => ixS lo hsl G x .i64 (a.length : Int) (by omega) (by omega)
    have ldL : ∀ G, Ext H G → primL lo G (loadA (ELo oc) 152 (ixA s.P (s.pgs.map pgA) a.length)) = some (.op p.q 0 0 0, G, rdTr s.P) := fun G x => by
      have := ldS lo hsl G x a.length (by omega)
      have e : s.pgs.getD a.length noPg = p := by rw [he, List.getD_eq_getElem?_getD]; simp
      rw [e] at this; exact this
    have hw1 : IntKind.i64.wrap ((s.pgs.length : Int) - 1) = (a.length : Int) := by rw [IntWalk.i64_in _ (by omega)]; omega
    by_cases h16 : p.l.length = 16
    · have hfull : ∀ a p, s.pgs = a ++ [p] → p.l.length = 16 := fun a' p' z => by
        rw [he] at z
        have := List.append_inj' z rfl
        have e : p = p' := by simpa using this.2
        rw [← e]; exact h16
      refine zvin Tryz.func86 Tryz.ntmps86 ?_
      repeat' (first | refine zka ?_ | refine zkb ?_ | (apply RKp.op; ((try simp (disch := (first | exact zQ | fail)) only [hbG, hlh, hcP, lenS lo hsl, ixL, ldL, hw1, hap, hgh, hgr, lnN, hwN, ixN, ldN, Int.toNat_natCast, go_sem]); exact zL); rfl) | (apply RKp.callR; ((first | apply hM | apply hLen) <;> (exact zD)); rfl; intro tr htr) | (apply RKp.callE; (apply hA0 <;> (exact zD)); (intro x; rfl)) | (apply RKp.callN; (apply pageNew_run <;> (exact zD)); rfl; intro tr htr) | refine zkc ?_ | refine zz ?_ | refine zkd ?_ | refine zke ?_ | refine zkf ?_ | (refine RKg.split (fun h => ?_) (fun h => ?_) <;> (try rw [h]) <;> (replace h := zB h) <;> (try (exfalso; first | exact h | omega))) | refine zbt ?_ | apply V.regK | refine zva ?_ | refine zvb ?_ | refine zgc ?_ | refine zvd ?_ | refine zve ?_ | (refine zvf (fun h => ?_) (fun h => ?_) <;> (replace h := zB h) <;> (try (exfalso; first | exact h | omega))) | (refine zfc Tryz.results86 ?_; (try dsimp only)))
      rintro x5 H5 tr5 ⟨rfl, ⟨m5, hp5, hm5⟩, ht5⟩
      have t5 := ht5.next
      rw [next_set] at t5 hm5
      have hb5 : H5.get sh = some (stBlk lim (.os m e 0 (s.pgs.length + 1)) n s.gone) := by rw [ht5.keep sh (by rw [next_set]; omega) (by omega), get_set, if_pos rfl]
      obtain ⟨hS6, ht6, hn6⟩ := hS.addNew (((Ext.refl H).push ⟨48, 2, 0, [[.sl 3 (cesA r.1), .v (.bool r.2)]], none⟩).push (pgBlk nilA)) rfl (by omega) (by (first | omega | (simp only [next_push, next_set, next_empty]; done) | (simp only [next_push, next_set, next_empty]; omega))) hgm (by rw [hGx]; exact hmp) hml (by rw [hGx]; omega) hGj (fun k hk1 hk2 => hkp k (by rw [hGx] at hk1; omega) hk2) ht5 hp5 hm5 (n + 1)
      have hg6 : StG ⟨.os m e 0 (s.pgs.length + 1), [m], s.pgs ++ [⟨H.next + 1, m5, 0, [], [r]⟩], s.gone⟩ (n + 1) := by
        refine ⟨?_, fun x hx => ?_, hg.fl.snoc hfull _⟩
        · show n + 1 = ((pgRows (s.pgs ++ [⟨H.next + 1, m5, 0, [], [r]⟩])).length : Int)
          rw [pgRows_app, pgRows_one, List.length_append, hnn]; simp
        · rcases List.mem_append.1 hx with hx | hx
          · exact hg.nz x hx
          · rw [List.mem_singleton.1 hx]; simp
      have hlo6 : ∀ k ∈ sh :: ([m] ++ pgNames (s.pgs ++ [⟨H.next + 1, m5, 0, [], [r]⟩])), lo ≤ k := fun k hk1 => by
        rcases hn6 k hk1 with z | z
        · exact hlo k (hk k z)
        · omega
      have hC := fun ys => cuts_E (ys := ys) (lo := lo) hS6 hg6 hT.l0 hlo6 (by omega)
      repeat' (first | refine zka ?_ | refine zkb ?_ | (apply RKp.op; ((try simp (disch := (first | exact zQ | fail)) only [hb5, hlh, go_sem]); exact zL); rfl) | (apply RKp.callE; (apply hC <;> (exact zD)); (intro x; rfl)) | refine zkc ?_ | refine zz ?_ | refine zkd ?_ | refine zke ?_ | refine zkf ?_ | (refine RKg.split (fun h => ?_) (fun h => ?_) <;> (try rw [h]) <;> (replace h := zB h) <;> (try (exfalso; first | exact h | omega))) | refine zbt ?_ | apply V.regK | refine zva ?_ | refine zvb ?_ | refine zgc ?_ | refine zvd ?_ | refine zve ?_ | (refine zvf (fun h => ?_) (fun h => ?_) <;> (replace h := zB h) <;> (try (exfalso; first | exact h | omega))) | (refine zfc Tryz.results86 ?_; (try dsimp only)))
      rintro x7 H7 tr7 ⟨s7, n7, q1, q2, q3, q4, q5⟩
      repeat' (first | refine zka ?_ | refine zkb ?_ | (apply RKp.op; ((try simp (disch := (first | exact zQ | fail)) only [go_sem]); exact zL); rfl) | refine zkc ?_ | refine zz ?_ | refine zkd ?_ | refine zke ?_ | refine zkf ?_ | (refine RKg.split (fun h => ?_) (fun h => ?_) <;> (try rw [h]) <;> (replace h := zB h) <;> (try (exfalso; first | exact h | omega))) | refine zbt ?_ | apply V.regK | refine zva ?_ | refine zvb ?_ | refine zgc ?_ | refine zvd ?_ | refine zve ?_ | (refine zvf (fun h => ?_) (fun h => ?_) <;> (replace h := zB h) <;> (try (exfalso; first | exact h | omega))) | (refine zfc Tryz.results86 ?_; (try dsimp only)))
      have q3' : pgRows s7.pgs = cutR lim (rows ++ [r]) := by
        rw [q3]
        show cutR lim (pgRows (s.pgs ++ [⟨H.next + 1, m5, 0, [], [r]⟩])) = _
        rw [pgRows_app, pgRows_one, hrw]
      exact ST.fin (s6 := ⟨.os m e 0 (s.pgs.length + 1), [m], s.pgs ++ [(⟨H.next + 1, m5, 0, [], [r]⟩ : Pg)], s.gone⟩) hk hT.lt hT.l0 ht6 (fun k hk1 => hn6 k hk1) q1 q2 q3' q4 q5
    · have hlt16 : p.l.length < 16 := by have := hp0.ln; omega
      have hpn := mem_pgNames hpm
      have hlq : lo ≤ p.q := hlo _ (hk _ (List.mem_cons_of_mem _ (List.mem_append_right _ hpn.1)))
      have hlm : lo ≤ p.m := hlo _ (hk _ (List.mem_cons_of_mem _ (List.mem_append_right _ hpn.2)))
      have hrb := (Ext.refl H).push ⟨48, 2, 0, [[.sl 3 (cesA r.1), .v (.bool r.2)]], none⟩
      have hPA := fun ys => pageAdd_run (ys := ys) (lo := lo) (hp0.ext hrb) hlq hlm hlt16 r hr
      have hgr0 : (H.push (⟨48, 2, 0, [[.sl 3 (cesA r.1), .v (.bool r.2)]], none⟩ : Blk)).get H.next = some ⟨48, 2, 0, [[.sl 3 (cesA r.1), .v (.bool r.2)]], none⟩ := by rw [get_push, if_pos rfl]
      refine zvin Tryz.func86 Tryz.ntmps86 ?_
      repeat' (first | refine zka ?_ | refine zkb ?_ | (apply RKp.op; ((try simp (disch := (first | exact zQ | fail)) only [hbG, hlh, hcP, hgr0, lenS lo hsl, ixL, ldL, hw1, Int.toNat_natCast, go_sem]); exact zL); rfl) | (apply RKp.callR; ((first | apply hM | apply hLen) <;> (exact zD)); rfl; intro tr htr) | (apply RKp.callE; (apply hPA <;> (exact zD)); (intro x; rfl)) | refine zkc ?_ | refine zz ?_ | refine zkd ?_ | refine zke ?_ | refine zkf ?_ | (refine RKg.split (fun h => ?_) (fun h => ?_) <;> (try rw [h]) <;> (replace h := zB h) <;> (try (exfalso; first | exact h | omega))) | refine zbt ?_ | apply V.regK | refine zva ?_ | refine zvb ?_ | refine zgc ?_ | refine zvd ?_ | refine zve ?_ | (refine zvf (fun h => ?_) (fun h => ?_) <;> (replace h := zB h) <;> (try (exfalso; first | exact h | omega))) | (refine zfc Tryz.results86 ?_; (try dsimp only)))
      rintro x5 H5 tr5 ⟨rfl, hp5, ht5⟩
      have hS1 := hS.ext hrb
      have t5 := ht5.next
      rw [next_push] at t5
      have hnd := hS.nd
      unfold StN.names at hnd
      rw [List.nodup_cons] at hnd
      have hq1 : sh ≠ p.q := fun z => hnd.1 (List.mem_append_right _ (by rw [z]; exact hpn.1))
      have hm1 : sh ≠ p.m := fun z => hnd.1 (List.mem_append_right _ (by rw [z]; exact hpn.2))
      have hb5 : H5.get sh = some (stBlk lim s.P n s.gone) := by rw [ht5.keep sh (by (first | omega | (simp only [next_push, next_set, next_empty]; done) | (simp only [next_push, next_set, next_empty]; omega))) (by rintro (z | z); exact hq1 z; exact hm1 z)]; exact hS1.blk
      have hS6 := hS1.addLast (p' := ⟨p.q, p.m, p.e + 1, [], p.l ++ [r]⟩) he rfl rfl ht5 hp5 (n + 1)
      have hg6 : StG { s with pgs := a ++ [⟨p.q, p.m, p.e + 1, [], p.l ++ [r]⟩] } (n + 1) := by
        have hfl := hg.fl
        rw [he] at hfl
        refine ⟨?_, fun x hx => ?_, hfl.last _⟩
        · show n + 1 = ((pgRows (a ++ [⟨p.q, p.m, p.e + 1, [], p.l ++ [r]⟩])).length : Int)
          rw [pgRows_app, pgRows_one, hnn, he, pgRows_app, pgRows_one]; simp; omega
        · rcases List.mem_append.1 hx with hx | hx
          · exact hg.nz x (by rw [he]; exact List.mem_append_left _ hx)
          · rw [List.mem_singleton.1 hx]; simp
      have hnn6 : ∀ k ∈ sh :: (s.pn ++ pgNames (a ++ [⟨p.q, p.m, p.e + 1, [], p.l ++ [r]⟩])), k ∈ s.names sh := fun k hk1 => by
        rw [names_last (a := a) (p := p) (p' := ⟨p.q, p.m, p.e + 1, [], p.l ++ [r]⟩) rfl rfl, ← he] at hk1; exact hk1
      have hC := fun ys => cuts_E (ys := ys) (lo := lo) hS6 hg6 hT.l0 (fun k hk1 => hlo k (hk k (hnn6 k hk1))) (by omega)
      repeat' (first | refine zka ?_ | refine zkb ?_ | (apply RKp.op; ((try simp (disch := (first | exact zQ | fail)) only [hb5, hlh, hcP, go_sem]); exact zL); rfl) | (apply RKp.callE; (apply hC <;> (exact zD)); (intro x; rfl)) | refine zkc ?_ | refine zz ?_ | refine zkd ?_ | refine zke ?_ | refine zkf ?_ | (refine RKg.split (fun h => ?_) (fun h => ?_) <;> (try rw [h]) <;> (replace h := zB h) <;> (try (exfalso; first | exact h | omega))) | refine zbt ?_ | apply V.regK | refine zva ?_ | refine zvb ?_ | refine zgc ?_ | refine zvd ?_ | refine zve ?_ | (refine zvf (fun h => ?_) (fun h => ?_) <;> (replace h := zB h) <;> (try (exfalso; first | exact h | omega))) | (refine zfc Tryz.results86 ?_; (try dsimp only)))
      rintro x7 H7 tr7 ⟨s7, n7, q1, q2, q3, q4, q5⟩
      repeat' (first | refine zka ?_ | refine zkb ?_ | (apply RKp.op; ((try simp (disch := (first | exact zQ | fail)) only [go_sem]); exact zL); rfl) | refine zkc ?_ | refine zz ?_ | refine zkd ?_ | refine zke ?_ | refine zkf ?_ | (refine RKg.split (fun h => ?_) (fun h => ?_) <;> (try rw [h]) <;> (replace h := zB h) <;> (try (exfalso; first | exact h | omega))) | refine zbt ?_ | apply V.regK | refine zva ?_ | refine zvb ?_ | refine zgc ?_ | refine zvd ?_ | refine zve ?_ | (refine zvf (fun h => ?_) (fun h => ?_) <;> (replace h := zB h) <;> (try (exfalso; first | exact h | omega))) | (refine zfc Tryz.results86 ?_; (try dsimp only)))
      have q3' : pgRows s7.pgs = cutR lim (rows ++ [r]) := by
        rw [q3]
        show cutR lim (pgRows (a ++ [⟨p.q, p.m, p.e + 1, [], p.l ++ [r]⟩])) = _
        rw [pgRows_app, pgRows_one, ← hrw, he, pgRows_app, pgRows_one, List.append_assoc]
      have ht6 : Turn (fun k => k ∈ s.names sh) H (H5.set sh (stBlk lim s.P (n + 1) s.gone)) := by
        refine ⟨by rw [next_set]; omega, by rw [js_set, ht5.js]; rfl, fun k h1 h2 => ?_⟩
        rw [get_set, if_neg (fun z => h2 (by rw [← z]; exact List.mem_cons_self)), ht5.keep k (by (first | omega | (simp only [next_push, next_set, next_empty]; done) | (simp only [next_push, next_set, next_empty]; omega))) (by
          rintro (z | z)
          · exact h2 (by rw [z]; exact List.mem_cons_of_mem _ (List.mem_append_right _ hpn.1))
          · exact h2 (by rw [z]; exact List.mem_cons_of_mem _ (List.mem_append_right _ hpn.2))), get_push, if_neg (by omega)]
      exact ST.fin (s6 := { s with pgs := a ++ [⟨p.q, p.m, p.e + 1, [], p.l ++ [r]⟩] }) hk hT.lt hT.l0 ht6 (fun k hk1 => .inl (hnn6 k hk1)) q1 q2 q3' q4 q5
end
end Go.Am
