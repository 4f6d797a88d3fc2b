/- What came in, of any type of numbers, texts, structs and slices of these: told by abstract values. -/
import Derived.Test.YtmcimfmibpfnhaaGreatAmC
import Derived.ChangeArms
set_option linter.all false
set_option linter.deprecated false
namespace Go.Am
open Go.ChangeShapes Go.WideShapes Go.RowKit

def layB (P : Program) : List Field → Nat → Nat → Bool
  | [], o, tot => Nat.beq o tot
  | f :: r, o, tot => Nat.beq f.offset o && layB P r (o + P.cellsOf f.type) tot
def okT (P : Program) : Nat → TypeId → Bool
  | 0, _ => false
  | d + 1, t => match P.underlying t with
    | some .bool | some (.int _) | some .string => true
    | some (.slice e) => Nat.blt 0 (P.cellsOf e) && okT P d e
    | some (.struct fs) => layB P fs.toList 0 (P.cellsOf t) && fs.toList.all fun f => okT P d f.type
    | _ => false
/-- Abstract cells of a type. -/
def Wd (P : Program) : Nat → TypeId → List AV → Prop
  | 0, _, _ => False
  | d + 1, t, as => match P.underlying t with
    | some .bool => ∃ b, as = [.v (.bool b)]
    | some (.int k) => ∃ n, as = [.v (.int k n)] ∧ (Lit.int k n).wf = true
    | some .string => ∃ s : ByteArray, as = [.v (.string s)] ∧ s.size ≤ maxLen
    | some (.slice e) => ∃ x es, as = [x] ∧ Sl (P.cellsOf e) x es ∧ es.length ≤ maxLen ∧ ∀ c ∈ es, Wd P d e c
    | some (.struct fs) => ∃ parts : List (List AV), as = parts.flatten ∧ parts.length = fs.size ∧ ∀ (i : Nat) (f : Field) (p : List AV), fs[i]? = some f → parts[i]? = some p → Wd P d f.type p
    | _ => False
def FRL (w : World) (cs : List Value) (as : List AV) : Prop := cs.length = as.length ∧ ∀ i, i < cs.length → (cs.getD i undef).oneCell' = true ∧ FR w (fun _ => False) (as.getD i .dead) (cs.getD i undef)
theorem FRL.nil (w : World) : FRL w [] [] := ⟨rfl, fun i h => absurd h (Nat.not_lt_zero i)⟩
theorem FRL.one {w : World} {c : Value} {a : AV} (h1 : c.oneCell' = true) (h : FR w (fun _ => False) a c) : FRL w [c] [a] := ⟨rfl, fun i hi => by
  have : i = 0 := by simpa using hi
  subst this; exact ⟨h1, h⟩⟩
theorem FRL.append {w : World} {cs cs' : List Value} {as as' : List AV} (h : FRL w cs as) (h' : FRL w cs' as') : FRL w (cs ++ cs') (as ++ as') := by
  refine ⟨by rw [List.length_append, List.length_append, h.1, h'.1], fun i hi => ?_⟩
  rw [List.length_append] at hi
  by_cases hc : i < cs.length
  · rw [List.getD_eq_getElem?_getD, List.getD_eq_getElem?_getD, List.getElem?_append_left hc, List.getElem?_append_left (by rw [← h.1]; exact hc), ← List.getD_eq_getElem?_getD, ← List.getD_eq_getElem?_getD]
    exact h.2 i hc
  · rw [List.getD_eq_getElem?_getD, List.getD_eq_getElem?_getD, List.getElem?_append_right (by omega), List.getElem?_append_right (by rw [← h.1]; omega), ← List.getD_eq_getElem?_getD, ← List.getD_eq_getElem?_getD, ← h.1]
    exact h'.2 _ (by omega)
section
variable {H : Type} {enc : TypeId × Value → H} {P : Program} {w : World} {base : Nat} {spare : Nat → Bool} {held : Bool}
/-- A struct's fields, one behind the other. -/
theorem fr_fields {d n : Nat} (ih : ∀ t, okT P d t = true → ∀ cs x, DataW.trod enc P w base spare held n t cs = some x → ∃ as, Wd P d t as ∧ FRL w cs as) (cs : List Value) (tot : Nat) (hl : cs.length = tot) :
    ∀ (fs : List Field) (xs : List (DataW H × List MemPlace)) (o : Nat), layB P fs o tot = true → o ≤ tot → (fs.all fun f => okT P d f.type) = true → xs.length = fs.length →
      (∀ (i : Nat) (f : Field), fs[i]? = some f → DataW.trod enc P w base spare held n f.type ((cs.drop f.offset).take (P.cellsOf f.type)) = xs[i]?) →
      ∃ parts : List (List AV), parts.length = fs.length ∧ (∀ (i : Nat) (f : Field) (p : List AV), fs[i]? = some f → parts[i]? = some p → Wd P d f.type p) ∧ FRL w (cs.drop o) parts.flatten
  | [], xs, o, h1, _, _, _, _ => by
    have : o = tot := Nat.eq_of_beq_eq_true h1
    refine ⟨[], rfl, fun i f p h => by simp at h, ?_⟩
    rw [List.drop_of_length_le (by omega)]
    exact FRL.nil w
  | f :: r, xs, o, h1, h2, h3, h4, h5 => by
    simp only [layB, Bool.and_eq_true] at h1
    have ho : f.offset = o := Nat.eq_of_beq_eq_true h1.1
    simp only [List.all_cons, Bool.and_eq_true] at h3
    cases xs with
    | nil => simp at h4
    | cons x xs =>
      have h0 := h5 0 f rfl
      rw [List.getElem?_cons_zero] at h0
      obtain ⟨as, ha1, ha2⟩ := ih f.type h3.1 _ _ h0
      have hle : ∀ (fs : List Field) (o : Nat), layB P fs o tot = true → o ≤ tot := by
        intro fs
        induction fs with
        | nil => intro o h; exact Nat.le_of_eq (Nat.eq_of_beq_eq_true h)
        | cons f r ih2 =>
          intro o h
          simp only [layB, Bool.and_eq_true] at h
          have := ih2 _ h.2
          omega
      have hs := hle r _ h1.2
      obtain ⟨parts, p1, p2, p3⟩ := fr_fields ih cs tot hl r xs (o + P.cellsOf f.type) h1.2 hs h3.2 (by simpa using h4) fun i g hg => by
        have := h5 (i + 1) g (by simpa using hg)
        simpa using this
      refine ⟨as :: parts, by simp [p1], fun i g p hg hp => ?_, ?_⟩
      · cases i with
        | zero =>
          simp only [List.getElem?_cons_zero, Option.some.injEq] at hg hp
          subst hg hp; exact ha1
        | succ i => exact p2 i g p (by simpa using hg) (by simpa using hp)
      · have e : cs.drop o = (cs.drop f.offset).take (P.cellsOf f.type) ++ cs.drop (o + P.cellsOf f.type) := by
          rw [ho, ← List.drop_drop, List.take_append_drop]
        rw [e, List.flatten_cons]
        exact ha2.append p3
theorem fr_trod : ∀ (d : Nat) (t : TypeId), okT P d t = true → ∀ (n : Nat) (cs : List Value) (x : DataW H × List MemPlace), DataW.trod enc P w base spare held n t cs = some x → ∃ as, Wd P d t as ∧ FRL w cs as
  | 0, _, h, _, _, _, _ => by cases h
  | d + 1, t, h, n, cs, x, ht => by
    unfold okT at h
    unfold Wd
    split at h
    · rename_i hu
      obtain ⟨b, rfl, _⟩ := DataW.trod_bool hu ht
      exact ⟨[.v (.bool b)], ⟨b, rfl⟩, FRL.one rfl (.v rfl)⟩
    · rename_i k hu
      obtain ⟨m, rfl, _, hw⟩ := DataW.trod_int hu ht
      exact ⟨[.v (.int k m)], ⟨m, rfl, hw⟩, FRL.one rfl (.v rfl)⟩
    · rename_i hu
      obtain ⟨s, rfl, _, hs⟩ := DataW.trod_string hu ht
      exact ⟨[.v (.string s)], ⟨s, rfl, hs⟩, FRL.one rfl (.v rfl)⟩
    · rename_i e hu
      simp only [Bool.and_eq_true] at h
      have hz : 0 < P.cellsOf e := Nat.blt_eq.mp h.1
      rcases DataW.trod_slice hu ht with ⟨rfl, _⟩ | ⟨a, len, cap, elems, rest, m, rfl, rfl, _, hb, hlc, hcm, hel, hE, _⟩
      · exact ⟨[.v (.slice none 0 0)], ⟨_, [], rfl, .inr ⟨rfl, .inr rfl⟩, Nat.zero_le _, fun c hc => by cases hc⟩, FRL.one rfl (.v rfl)⟩
      · have each : ∀ i, i < len → ∃ ci as, w.cells? base (a.add (i * P.cellsOf e)) (P.cellsOf e) = some ci ∧ Wd P d e as ∧ FRL w ci as := by
          intro i hi
          have h1 := hE i hi
          rw [List.getElem?_eq_getElem (by omega), Option.bind_eq_some_iff] at h1
          obtain ⟨ci, h2, h3⟩ := h1
          obtain ⟨as, h4, h5⟩ := fr_trod d e h.2 m ci _ h3
          exact ⟨ci, as, h2, h4, h5⟩
        have each' : ∀ i : Nat, ∃ as : List AV, i < len → ∃ ci, w.cells? base (a.add (i * P.cellsOf e)) (P.cellsOf e) = some ci ∧ Wd P d e as ∧ FRL w ci as := fun i => by
          by_cases hi : i < len
          · obtain ⟨ci, as, h⟩ := each i hi
            exact ⟨as, fun _ => ⟨ci, h⟩⟩
          · exact ⟨[], fun h => absurd h hi⟩
        have hch : ∃ g : Nat → List AV, ∀ i, i < len → ∃ ci, w.cells? base (a.add (i * P.cellsOf e)) (P.cellsOf e) = some ci ∧ Wd P d e (g i) ∧ FRL w ci (g i) := ⟨fun i => Classical.choose (each' i), fun i => Classical.choose_spec (each' i)⟩
        obtain ⟨g, hg⟩ := hch
        have hlen : ((List.range len).map g).length = len := by simp
        have hget : ∀ i, i < len → ((List.range len).map g).getD i [] = g i := fun i hi => by simp [List.getD_eq_getElem?_getD, hi]
        have hgl : ∀ i, i < len → (g i).length = P.cellsOf e := fun i hi => by
          obtain ⟨ci, h1, _, h3⟩ := hg i hi
          rw [← h3.1]; exact (World.cells?_some h1).2.1
        refine ⟨[.sl (P.cellsOf e) ((List.range len).map g)], ⟨_, _, rfl, .inl rfl, by rw [hlen]; omega, fun c hc => ?_⟩, FRL.one rfl ?_⟩
        · obtain ⟨i, hi, rfl⟩ := List.mem_map.1 hc
          obtain ⟨_, _, h2, _⟩ := hg i (List.mem_range.1 hi)
          exact h2
        · rcases Nat.eq_zero_or_pos len with h0 | h0
          · subst h0
            exact FR.sl a 0 0 cap (fun _ _ => .nilFunc) (fun h => absurd rfl h) (Nat.zero_le _) hcm (fun i hi => by simp at hi) (fun i j hi => by simp at hi) (fun i j hi => by simp at hi) (fun i j hi => by simp at hi)
          · have hsp : a.spot = none := by
              obtain ⟨ci, h1, _, h3⟩ := hg 0 h0
              have hc := World.cells?_some h1
              have h4 := hc.2.2 0 hz
              rw [List.getElem?_eq_getElem (by rw [hc.2.1]; exact hz)] at h4
              simp only [Nat.zero_mul, Addr.add, if_true] at h4
              exact World.cell?_spot h4
            obtain ⟨b, o, third⟩ := a
            simp only at hsp
            subst hsp
            have spot : ∀ i j, i < len → j < P.cellsOf e → ∃ v, w.cell? ⟨b, o + i * P.cellsOf e + j, none⟩ = some v ∧ v.oneCell' = true ∧ FR w (fun _ => False) ((g i).getD j .dead) v := by
              intro i j hi hj
              obtain ⟨ci, h1, _, h3⟩ := hg i hi
              have hc := World.cells?_some h1
              have hcl : j < ci.length := by rw [hc.2.1]; exact hj
              refine ⟨ci.getD j undef, ?_, h3.2 j hcl⟩
              have h4 := hc.2.2 j hj
              rw [Go.WideShapes.add_plain, Go.WideShapes.add_plain] at h4
              rw [h4, List.getD_eq_getElem?_getD, List.getElem?_eq_getElem hcl]; rfl
            have spot' : ∀ i j : Nat, ∃ v : Value, i < len → j < P.cellsOf e → w.cell? ⟨b, o + i * P.cellsOf e + j, none⟩ = some v ∧ v.oneCell' = true ∧ FR w (fun _ => False) ((g i).getD j .dead) v := fun i j => by
              by_cases hij : i < len ∧ j < P.cellsOf e
              · obtain ⟨v, hv⟩ := spot i j hij.1 hij.2
                exact ⟨v, fun _ _ => hv⟩
              · exact ⟨.nilFunc, fun h1 h2 => absurd ⟨h1, h2⟩ hij⟩
            have hcs : ∃ c : Nat → Nat → Value, ∀ i j, i < len → j < P.cellsOf e → w.cell? ⟨b, o + i * P.cellsOf e + j, none⟩ = some (c i j) ∧ (c i j).oneCell' = true ∧ FR w (fun _ => False) ((g i).getD j .dead) (c i j) := ⟨fun i j => Classical.choose (spot' i j), fun i j => Classical.choose_spec (spot' i j)⟩
            obtain ⟨c, hc⟩ := hcs
            have := FR.sl (w := w) (av := fun _ => False) (sz := P.cellsOf e) (es := (List.range len).map g) ⟨b, o, none⟩ b o cap c (fun _ => ⟨rfl, hz, fun h => h⟩) (by rw [hlen]; exact hlc) hcm
              (fun i hi => by rw [hlen] at hi; rw [hget i hi]; exact hgl i hi) (fun i j hi hj => (hc i j (by rw [hlen] at hi; exact hi) hj).1) (fun i j hi hj => (hc i j (by rw [hlen] at hi; exact hi) hj).2.1)
              (fun i j hi hj => by rw [hlen] at hi; rw [hget i hi]; exact (hc i j hi hj).2.2)
            rw [hlen] at this
            exact this
    · rename_i fs hu
      simp only [Bool.and_eq_true] at h
      obtain ⟨xs, m, rfl, _, hcl, hxl, hf⟩ := DataW.trod_struct hu ht
      obtain ⟨parts, p1, p2, p3⟩ := fr_fields (fun t h cs x => fr_trod d t h m cs x) cs _ hcl fs.toList xs 0 h.1 (Nat.zero_le _) h.2 (by simpa using hxl) fun i f hfi => hf i f (by simpa using hfi)
      exact ⟨_, ⟨parts, rfl, by simpa using p1, fun i f p hfi hp => p2 i f p (by simpa using hfi) hp⟩, by simpa using p3⟩
    · cases h
end
/-- A param of struct type. -/
theorem FRL.agg {w : World} {cs : Array Value} {as : List AV} (h : FRL w cs.toList as) : FR w (fun _ => False) (.agg as) (.agg cs) := by
  refine .agg cs (by simpa using h.1) (fun i hi => ?_) fun i hi => ?_
  · have := (h.2 i (by rw [h.1]; exact hi)).1
    simpa [List.getD_eq_getElem?_getD, Array.getD_eq_getD_getElem?] using this
  · have := (h.2 i (by rw [h.1]; exact hi)).2
    simpa [List.getD_eq_getElem?_getD, Array.getD_eq_getD_getElem?] using this
end Go.Am
