/- Regions; loops. -/
import Derived.Test.YtoeemmlfcnokiaaGreatAmRun12
set_option linter.all false
set_option linter.deprecated false
namespace Go.Am

theorem Post.trans {C : Ctx} {lo : Nat} {ys : List (Nat × LRec)} {a a1 : Act} {s1 s2 : St} {x : AX} {e : Exit} {a2 : Act} {w2 : World} (g : Good C) {C1 : Ctx} {ds : List Nat} (hA : After C C1 lo ys s1.H)
    (hd : a1.defers = marked ds ++ a.defers) (hm : Marks C C1 ds) (h : Post C1 lo ys a1 x s2 e a2 w2) : Post C lo ys a x s2 e a2 w2 := by
  obtain ⟨he, C2, es, hw, hA2, hT2, hd2, hm2⟩ := h
  refine ⟨he, C2, es ++ ds, hw, hA.trans g hA2, hT2, ?_, hm.append hA.good hA.le hA2.le hm2⟩
  rw [hd2, hd]
  simp [marked]

/-- Behind a round of a loop. -/
def LoopTail (F : Fence) (n : Nat) (P : Program) (c : Code) (Q : Exit → Act → World → Prop) (a : Act) (w : World) : Prop :=
  ∀ (b : Frame) (k : List Item) (cs : List Frame), b.roundOf = F.round → F.fn b.fn → F.room (cs.length + 1 + n) →
    ∃ e a' w', Q e a' w' ∧ ArrivesIn (Machine.fenced P F) P (lone (b.atR a (.inLoop c :: k)) cs w) b k cs e a' w'
section
variable {F : Fence} {n : Nat} {P : Program} {c : Code} {Q : Exit → Act → World → Prop} {a : Act} {w : World}
theorem loop_arrives (h : c.wpIn F n P (Exit.then (LoopTail F n P c Q) Q) a w) (b : Frame) (k : List Item) (cs : List Frame) (hro : b.roundOf = F.round) (hb : F.fn b.fn) (hr : F.room (cs.length + 1 + n)) :
    ∃ e a' w', Q e a' w' ∧ ArrivesIn (Machine.fenced P F) P (lone (b.atR a (.code c :: .inLoop c :: k)) cs w) b k cs e a' w' := by
  obtain ⟨e, a₁, w₁, hq, harr⟩ := h b (.inLoop c :: k) cs hro hb hr
  cases e with
  | normal =>
    obtain ⟨e₂, a₂, w₂, hq₂, harr₂⟩ := hq b k cs hro hb hr
    exact ⟨e₂, a₂, w₂, hq₂, .of_steps harr harr₂⟩
  | exit id => exact ⟨_, a₁, w₁, hq, .pass (x := .inLoop c) rfl (fun _ _ => .inl (by simp)) harr⟩
  | goto l => exact ⟨_, a₁, w₁, hq, .pass (x := .inLoop c) rfl (fun _ _ => .inl (by simp)) harr⟩
  | ret => exact ⟨_, a₁, w₁, hq, .pass (x := .inLoop c) rfl (fun _ _ => .inl (by simp)) harr⟩
  | panic ch => exact ⟨_, a₁, w₁, hq, .pass (x := .inLoop c) rfl (fun _ _ => .inl (by simp)) harr⟩
  | outgrown => exact ⟨_, a₁, w₁, hq, .pass (x := .inLoop c) rfl (fun _ _ => .inl (by simp)) harr⟩
theorem LoopTail.intro (h : c.wpIn F n P (Exit.then (LoopTail F n P c Q) Q) a w) : LoopTail F n P c Q a w := fun b k cs hro hb hr =>
  let ⟨e, a', w', q, r⟩ := loop_arrives h b k cs hro hb hr
  ⟨e, a', w', q, .of_steps (.one (fenced_calm hb hr rfl) stepR_inLoop) r⟩
theorem wpIn_loop_tail (h : c.wpIn F n P (Exit.then (LoopTail F n P c Q) Q) a w) : (Code.loop c).wpIn F n P Q a w := fun b k cs hro hb hr =>
  let ⟨e, a', w', q, r⟩ := loop_arrives h b k cs hro hb hr
  ⟨e, a', w', q, .of_steps (.one (fenced_calm hb hr rfl) stepR_loop) r⟩
end

section
variable {E : Env} {go : Run} {ys : List (Nat × LRec)} {lo : Nat}
/-- A region that draws its order. -/
theorem region_drawn (hE : ProgOK E) (hgo : GoOK E go) {ops : Array Oper} {s s' : St} {trs : List Tr} (h : runOps E (callF E go ys lo) lo ops.toList ops.toList s = some (s', trs))
    (hok : (okBack ops.toList 0 && okPairs (aheads ops.toList [] 0) (slotTrs ops.toList ops.toList) 0 [] && okPairs (aheads ops.toList [] 0) trs 0 []) = true) {C : Ctx} {a : Act} {F : Fence} {rd : Bool} {n : Nat} (hF : FenceOK rd F) (g : Good C) (hH : HR C s.H) (hlo : lo ≤ s.H.next)
    (hT : TR C s.tm a.tmps) (hY : YRel C ys) (id : Nat) : (Code.region id ops true).wpIn F n E.P (Post C lo ys a .normal s') a C.w := by
  simp only [Bool.and_eq_true] at hok
  obtain ⟨⟨hb, hs⟩, ht⟩ := hok
  obtain ⟨S, rfl, rfl, hlen, hstep⟩ := runOps_seq h
  have hl : ∀ (j : Nat) (o : Oper), ops[j]? = some o → ops.toList[j]? = some o := fun j o ho => by simpa using ho
  have hsz : ops.toList.length = ops.size := by simp
  let ah : Nat → Nat → Prop := fun j i => ((aheads ops.toList [] 0).getD j 0).testBit i = true
  have hah := (aheads_ok ops.toList [] 0 rfl).2
  have hStat : Stat E ops lo ys S (fun k => trs.getD k ⟨0, 0, 0⟩) ah := by
    refine ⟨fun k o ho => ?_, fun i j hij hj hc => ?_, fun i j oi oj t hij hoi hoj hc => ?_, fun j o i ho hi => ?_, fun j o e ho he hbd => ?_⟩
    · obtain ⟨tr, h1, h2⟩ := hstep k o (hl k o ho)
      have : trs.getD k ⟨0, 0, 0⟩ = tr := by simp [List.getD_eq_getElem?_getD, h1]
      rw [this]
      exact stepOp_goes hE hgo h2
    · have hj' : j < trs.length := by rw [hlen, hsz]; exact hj
      obtain ⟨a', h1, _, h3⟩ := okPairs_ok trs _ _ _ ht j trs[j] (by simp [hj'])
      have hi' : i < trs.length := by omega
      rcases h3 i trs[i] hij (by simp [hi']) with h4 | h4
      · show ((aheads ops.toList [] 0).getD j 0).testBit i = true
        simpa [List.getD_eq_getElem?_getD, h1] using h4
      · simp [List.getD_eq_getElem?_getD, hi', hj', h4] at hc
    · obtain ⟨a', h1, _, h3⟩ := okPairs_ok _ _ _ _ hs j _ (slotTrs_ok ops.toList ops.toList j oj (hl j oj hoj))
      rcases h3 i _ hij (slotTrs_ok ops.toList ops.toList i oi (hl i oi hoi)) with h4 | h4
      · show ((aheads ops.toList [] 0).getD j 0).testBit i = true
        simpa [List.getD_eq_getElem?_getD, h1] using h4
      · exfalso
        have hcl : clash ⟨bitsOf (namesOp ops.toList oi), bitsOf oi.dst.toList, 0⟩ ⟨bitsOf (namesOp ops.toList oj), bitsOf oj.dst.toList, 0⟩ = true := by
          refine clash_of (n := t) ?_
          rcases hc with ⟨h5, h6⟩ | ⟨h5, h6⟩
          · exact .inl ⟨.inl (by simp [bitsOf_test, h5]), .inl (by simp [bitsOf_test, h6])⟩
          · exact .inr ⟨.inl (by simp [bitsOf_test, h6]), .inl (by simp [bitsOf_test, h5])⟩
        rw [hcl] at h4
        cases h4
    · obtain ⟨a', h1, h2⟩ := hah j o (hl j o ho)
      have hi' : a'.testBit i = true := by
        have : ((aheads ops.toList [] 0).getD j 0).testBit i = true := hi
        simpa [List.getD_eq_getElem?_getD, h1] using this
      obtain ⟨e, h3, h4, h5⟩ := h2 i hi'
      have := okBack_ok ops.toList 0 hb j o (hl j o ho) e h3 h4
      exact ⟨e, by simpa using h3, h4, by omega, h5.imp _root_.id fun h => by simpa [ah] using h⟩
    · have := okBack_ok ops.toList 0 hb j o (hl j o ho) e (by simpa using he) hbd
      omega
  refine wpIn_region_any hE.mixed ?_
  let w' : World := { C.w with drawn := C.w.drawn + 1 }
  have hle : Le C (C.grow w') := Ctx.grow_le g w' rfl rfl rfl (Nat.le_refl _) fun _ _ => rfl
  have hgd : Good (C.grow w') := Ctx.grow_good g w' rfl rfl rfl (Nat.le_refl _) fun _ _ => rfl
  have key := drawn_any (n := n) hStat (C0 := C) (a0 := a) g (fun m hm => (hH.born m).2 (by omega)) hY hF (Post C lo ys a .normal (S ops.toList.length)) (fun C' a' hI => ?_) ops.size (Array.replicate ops.size false) (C.grow w') a (by simp)
    (Nat.le_trans List.countP_le_length (by simp)) ?_
  · exact key
  · refine ⟨rfl, C', [], rfl, ⟨hI.le, hI.good, ⟨fun m => ?_, fun m => ?_, ?_⟩, hI.low, hI.jsk⟩, ⟨?_, fun t => ?_⟩, by simp [marked, hI.defers], .nil _ _⟩
    · rw [hsz]; exact ((hI.blk m).last (hStat.blk_frame m) fun _ h => h).1
    · rw [hsz]; exact ((hI.blk m).last (hStat.blk_frame m) fun _ h => h).2
    · rw [hsz]; exact hI.js.last hStat.js_frame fun _ h => h
    · rw [hsz, hStat.tmn _ (Nat.le_refl _), hI.size]
    · rw [hsz]; exact (hI.tm t).last (hStat.tm_frame t) fun _ h => h
  · have hX : ∀ j, ¬ (Array.replicate ops.size false).getD j false = true := fun j => by
      simp only [Array.getD_eq_getD_getElem?, Array.getElem?_replicate]
      split <;> simp
    have at0 : ∀ {α : Type} (val : Nat → α) (W : Nat → Prop) (R : α → Prop), R (val 0) → At ops.size val W (fun j => (Array.replicate ops.size false).getD j false = true) R := fun val W R hr =>
      ⟨0, Nat.zero_le _, fun j _ _ => ⟨fun h => absurd h (hX j), fun h => by omega⟩, hr⟩
    exact ⟨hle, hgd, fun m => at0 _ _ _ ⟨hH.get m, hH.born m⟩, at0 _ _ _ hH.js, fun t => at0 _ _ _ ((hT.2 t).mono hle), hT.1.symm, fun _ _ => rfl, fun _ _ _ => rfl, rfl, fun j _ h => absurd h (hX j)⟩

theorem region_inOrder (hE : ProgOK E) (hgo : GoOK E go) {ops : Array Oper} {s s' : St} {trs : List Tr} (h : runOps E (callF E go ys lo) lo ops.toList ops.toList s = some (s', trs)) {C : Ctx} {a : Act} {F : Fence} {rd : Bool} {n : Nat} (hF : FenceOK rd F) (g : Good C) (hH : HR C s.H) (hlo : lo ≤ s.H.next)
    (hT : TR C s.tm a.tmps) (hY : YRel C ys) (id : Nat) : (Code.region id ops false).wpIn F n E.P (Post C lo ys a .normal s') a C.w := by
  refine wpIn_region ?_
  have := runOps_goes (n := n) hE hgo (ops := ops) hF (Post C lo ys a .normal s') ops.toList 0 s s' trs C a rfl h g hH hT hY hlo fun C' a' hA hT' hd => ⟨rfl, C', [], rfl, hA, hT', by simp [marked, hd], .nil _ _⟩
  rw [List.range_eq_range']
  simpa using this
end

end Go.Am
