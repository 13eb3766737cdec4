/- A part of the proof of the law SolveSolved: an abstract machine for the functions' code with its soundness, words, lemmas (assembled by a program). -/
import Derived.LoopN
import Derived.ChangeArms
import Derived.ChangeOld
import Derived.SizedLaws
import Derived.WideShapes
import Derived.Below
import Derived.RowKit
import Derived.IntWalk
import Derived.Laws.BitsLemmas
import Derived.Test.YtflnfnemhgjglaaGreatCSolveSolved0
set_option linter.unusedVariables false
set_option linter.unusedSimpArgs false
set_option linter.unusedSectionVars false
section
set_option linter.unusedVariables false
set_option linter.unusedSimpArgs false
namespace Go.AM
open Go
theorem countP_lt {α : Type} {p p' : α → Bool} (hle : ∀ x, p' x = true → p x = true) : ∀ {l : List α} {x : α}, x ∈ l → p x = true → p' x = false → l.countP p' < l.countP p := by
  have le : ∀ l : List α, l.countP p' ≤ l.countP p := fun l => List.countP_mono_left fun x _ h => hle x h
  intro l
  induction l with
  | nil => intro x hx; cases hx
  | cons y l ih =>
    intro x hx h1 h2
    rcases List.mem_cons.1 hx with rfl | hx
    · rw [List.countP_cons, List.countP_cons, h1, h2]
      have := le l
      simp; omega
    · have := ih hx h1 h2
      rw [List.countP_cons, List.countP_cons]
      by_cases hy : p' y = true
      · rw [if_pos hy, if_pos (hle y hy)]; omega
      · rw [if_neg hy]
        split <;> omega
section
variable {P : Program} {nt : Nat} {C : CR} {ops : Array Oper} {aops : List AOper} {plan : List (Nat × Nat)} {env env' : Env} {h h' : Heap}
theorem draw_go (hC : CSound P C) (T : Trace C aops env h env' h') (D : Draw ops aops plan) (hn : aops.length = ops.size) (hch : ∀ (j : Nat) (ao : AOper), aops[j]? = some ao → ∃ o, ops[j]? = some o ∧ chkOper P nt ops.toList o ao = true)
    (hst : plan.all (stableA C env' (h :: heapsA C aops env h) aops) = true) {Q : Exit → Act → World → Prop} :
    ∀ (fuel : Nat) (listed : Array Bool) (a : Act) (w : World) (k : Kr) (p : Nat), listed.size = ops.size → Closed ops (fun j => listed.getD j false) → (List.range ops.size).countP (fun j => !listed.getD j false) ≤ fuel → p ≤ aops.length →
      (∀ (j : Nat) (q : AOper), aops[j]? = some q → heavy q.op = true → (listed.getD j false = true ↔ j < p)) → HRel k (T.f p).2 w → ERel nt k w (ED T (fun j => listed.getD j false) aops.length) a →
      (loose ops.toList aops = true → ∀ (j : Nat) (q : AOper), aops[j]? = some q → isAlloc q.op = true → listed.getD j false = true) →
      (∀ a' k' w', Fr k w k' w' → HRel k' h' w' → ERel nt k' w' env' a' → Q .normal a' w') → wpAny P .any ops Q fuel listed a w := by
  have done : ∀ (listed : Array Bool) (a : Act) (w : World) (k : Kr) (p : Nat), listed.size = ops.size → Region.ready .any ops listed = [] → p ≤ aops.length →
      (∀ (j : Nat) (q : AOper), aops[j]? = some q → heavy q.op = true → (listed.getD j false = true ↔ j < p)) → HRel k (T.f p).2 w → ERel nt k w (ED T (fun j => listed.getD j false) aops.length) a →
      (∀ a' k' w', Fr k w k' w' → HRel k' h' w' → ERel nt k' w' env' a' → Q .normal a' w') → Q .normal a w := by
    intro listed a w k p hs hr hp hhv H E hQ
    have hall : ∀ j, j < ops.size → listed.getD j false = true := by
      intro j
      induction j using Nat.strongRecOn with
      | _ j ih =>
        intro hj
        cases hlj : listed.getD j false with
        | true => rfl
        | false =>
          have hmem : j ∈ Region.ready .any ops listed := by
            rw [mem_ready]
            refine ⟨?_, ops[j], Array.getElem?_eq_getElem hj, fun e he hb => ?_⟩
            · have hjs : j < listed.size := by omega
              simpa [hjs] using hlj
            · have := D.back j ops[j] (Array.getElem?_eq_getElem hj) e he hb
              exact ih e.on this (by omega)
          rw [hr] at hmem
          cases hmem
    have hE : ED T (fun j => listed.getD j false) aops.length = env' := by
      rw [ED_all T (fun j hj => hall j (by omega)) _ (Nat.le_refl _), T.last]
    have hH : (T.f p).2 = h' := by
      have hc : calm aops p aops.length = true := by
        refine List.all_eq_true.2 fun j hj => ?_
        have hj' := List.mem_range.1 hj
        simp only [Bool.or_eq_true, Bool.not_eq_true', Bool.and_eq_false_iff, decide_eq_false_iff_not]
        have hq : aops[j]? = some aops[j] := List.getElem?_eq_getElem hj'
        cases hh : heavy aops[j].op with
        | false => right; simp [hq, hh]
        | true =>
          have := (hhv j _ hq hh).1 (hall j (by omega))
          left; left; omega
      rw [← calm_eq T hp (Nat.le_refl _) hc, T.last]
    rw [hE] at E
    rw [hH] at H
    exact hQ a k w (Fr.refl k w) H E
  intro fuel
  induction fuel with
  | zero =>
    intro listed a w k p hs hcl hcnt hp hhv H E hB hQ
    have hr : Region.ready .any ops listed = [] := by
      apply List.eq_nil_iff_forall_not_mem.2
      intro j hj
      obtain ⟨h0, o, ho, _⟩ := mem_ready.1 hj
      have hlt := (Array.getElem?_eq_some_iff.1 ho).1
      have : 0 < (List.range ops.size).countP (fun j => !listed.getD j false) := List.countP_pos_iff.2 ⟨j, List.mem_range.2 hlt, by
        have hjs : j < listed.size := by omega
        simp [hjs] at h0 ⊢
        exact h0⟩
      omega
    exact ⟨hr, done listed a w k p hs hr hp hhv H E hQ⟩
  | succ fuel ih =>
    intro listed a w k p hs hcl hcnt hp hhv H E hB hQ
    refine ⟨fun hr => done listed a w k p hs hr hp hhv H E hQ, fun i hi => ?_⟩
    obtain ⟨h0, o, hio, hwait⟩ := mem_ready.1 hi
    have hilt := (Array.getElem?_eq_some_iff.1 hio).1
    have hLi : listed.getD i false = false := by
      have : i < listed.size := by omega
      simp [this] at h0 ⊢
      exact h0
    obtain ⟨ao, hai⟩ : ∃ ao, aops[i]? = some ao := ⟨aops[i], List.getElem?_eq_getElem (by omega)⟩
    obtain ⟨o', hio', hk⟩ := hch i ao hai
    obtain rfl : o' = o := by rw [hio] at hio'; simpa using hio'.symm
    let L : Nat → Bool := fun j => listed.getD j false
    have hwb : ∀ j, bef ops.toList i j = true → L j = true := fun j hb => bef_in hcl i j o' hio (fun e he hbd => hwait e he hbd) hb
    have hLget : ∀ j, (listed.setIfInBounds i true).getD j false = (decide (j = i) || L j) := by
      intro j
      by_cases hj : j = i
      · subst hj
        have : j < listed.size := by omega
        simp [this]
      · have : i ≠ j := fun e => hj e.symm
        simp [Array.getElem?_setIfInBounds_ne this, hj, L]
    obtain ⟨hs1, hs2⟩ := T.step i ao hai
    have hlook : ∀ t ∈ ao.looks, get (ED T L aops.length) t = get (T.f i).1 t := fun t ht => by
      have := looks_eq T D hn hcl hai hLi hwb ht aops.length (Nat.le_refl _)
      rwa [show min aops.length i = i by omega] at this
    have hop : ∃ p', p' ≤ aops.length ∧ operA C ao (ED T L aops.length) (T.f p).2 = some (T.X i, (T.f p').2) ∧ ∀ (j : Nat) (q : AOper), aops[j]? = some q → heavy q.op = true → ((decide (j = i) || L j) = true ↔ j < p') := by
      rw [operA_congr hlook]
      by_cases hh : heavy ao.op = true
      · have hnone : ∀ (j : Nat) (q : AOper), aops[j]? = some q → heavy q.op = true → j ≠ i → (L j = true ↔ j < i) := by
          intro j q hj hq hne
          constructor
          · intro hL
            rcases Nat.lt_or_gt_of_ne hne with hlt | hgt
            · exact hlt
            · rcases D.pair i j ao q hgt hai hj with hb | ⟨_, _, hb⟩
              · have := bef_out hcl hL (by have := (List.getElem?_eq_some_iff.1 hj).1; omega) hb
                rw [hLi] at this; cases this
              · rcases hb with hb | hb | ⟨hb, _, hlo⟩
                · rw [hh] at hb; cases hb
                · rw [hq] at hb; cases hb
                · have := hB hlo i ao hai hb
                  rw [hLi] at this; cases this
          · intro hlt
            rcases D.pair j i q ao hlt hj hai with hb | ⟨_, _, hb⟩
            · exact hwb j hb
            · rcases hb with hb | hb | ⟨_, hb, hlo⟩
              · rw [hq] at hb; cases hb
              · rw [hh] at hb; cases hb
              · have := hB hlo i ao hai hb
                rw [hLi] at this; cases this
        have hpi : (T.f p).2 = (T.f i).2 := by
          refine same_eq T hp (by omega) ?_ ?_
          · refine List.all_eq_true.2 fun j hj => ?_
            have hj' := List.mem_range.1 hj
            have hq : aops[j]? = some aops[j] := List.getElem?_eq_getElem hj'
            simp only [Bool.or_eq_true, Bool.not_eq_true', Bool.and_eq_false_iff, decide_eq_false_iff_not]
            cases hhj : heavy aops[j].op with
            | false => right; simp [hq, hhj]
            | true =>
              left
              by_cases hji : j = i
              · right; omega
              · have h1 := hnone j _ hq hhj hji
                have h2 := hhv j _ hq hhj
                have h3 : j < i ↔ j < p := h1.symm.trans h2
                omega
          · refine List.all_eq_true.2 fun j hj => ?_
            have hj' := List.mem_range.1 hj
            have hq : aops[j]? = some aops[j] := List.getElem?_eq_getElem hj'
            simp only [Bool.or_eq_true, Bool.not_eq_true', Bool.and_eq_false_iff, decide_eq_false_iff_not]
            cases hhj : heavy aops[j].op with
            | false => right; simp [hq, hhj]
            | true =>
              left
              by_cases hji : j = i
              · subst hji
                have h2 := hhv j _ hq hhj
                rw [hLi] at h2
                right
                intro h4
                exact absurd (h2.2 h4) (by simp)
              · have h1 := hnone j _ hq hhj hji
                have h2 := hhv j _ hq hhj
                have h3 : j < i ↔ j < p := h1.symm.trans h2
                omega
        rw [hpi]
        refine ⟨i + 1, by omega, hs1, fun j q hj hq => ?_⟩
        by_cases hji : j = i
        · subst hji; simp
        · have h1 := hnone j q hj hq hji
          simp only [hji, decide_false, Bool.false_or]
          rw [h1]
          omega
      · have hh : heavy ao.op = false := by simpa using hh
        have hstay : ∀ (j : Nat) (q : AOper), aops[j]? = some q → heavy q.op = true → ((decide (j = i) || L j) = true ↔ j < p) := by
          intro j q hj hq
          have hji : j ≠ i := by
            intro e
            subst e
            rw [hai] at hj
            simp only [Option.some.injEq] at hj
            subst hj
            rw [hh] at hq; cases hq
          simp only [hji, decide_false, Bool.false_or]
          exact hhv j q hj hq
        by_cases hl : isLoad ao.op = true
        · obtain ⟨hd, hlater, hcase⟩ := D.load i ao hai hl
          refine ⟨p, hp, ?_, hstay⟩
          rcases hcase p hp with ⟨c1, c2⟩ | ⟨j, q, hj, hq, hcase⟩ | ⟨kk, hkk, c1, c2, hkn⟩
          · rw [same_eq T hp (by omega) c1 c2, hs1]
            rw [(operA_light hh hs1).1]
          · exfalso
            have h2 := hhv j q hj hq
            rcases hcase with ⟨h3, h4⟩ | ⟨h3, h4⟩
            · have := h2.1 (hwb j h4); omega
            · have h5 := h2.2 h3
              have := bef_out hcl h5 (by have := (List.getElem?_eq_some_iff.1 hj).1; omega) h4
              rw [hLi] at this; cases this
          · rw [same_eq T hp hkn c1 c2]
            exact stable_load T D hai hl hst hkk hkn
        · have hl : isLoad ao.op = false := by simpa using hl
          exact ⟨p, hp, (operA_light hh hs1).2 hl _, hstay⟩
    obtain ⟨p', hp', hop, hhv'⟩ := hop
    obtain ⟨hd1, hd2⟩ := chk_dst hk
    refine oper_sound hC hio hk E H hop fun v k' w' hF hH hv => ?_
    refine ih (listed.setIfInBounds i true) (a.put o'.dst v) w' k' p' (by simpa using hs) ?_ ?_ hp' (fun j q hj hq => by rw [hLget]; exact hhv' j q hj hq) hH ?_ (fun hlo j q hj hq => by rw [hLget]; simp only [Bool.or_eq_true]; exact .inr (hB hlo j q hj hq)) fun a' k2 w2 hF2 hH2 E2 => hQ a' k2 w2 (hF.trans hF2) hH2 E2
    · intro j oj hj hLj e he hb
      simp only at hLj ⊢
      rw [hLget] at hLj
      rw [hLget]
      simp only [Bool.or_eq_true, decide_eq_true_eq] at hLj ⊢
      right
      rcases hLj with rfl | hLj
      · have : oj = o' := by rw [hio] at hj; simpa using hj.symm
        subst this
        exact hwait e he hb
      · exact hcl j oj hj hLj e he hb
    · have : (List.range ops.size).countP (fun j => !(listed.setIfInBounds i true).getD j false) < (List.range ops.size).countP (fun j => !listed.getD j false) := by
        refine countP_lt (fun x hx => ?_) (List.mem_range.2 hilt) (by simpa using hLi) (by rw [hLget]; simp)
        rw [hLget] at hx
        simp only [Bool.not_eq_true', Bool.or_eq_false_iff] at hx
        have hx2 : listed.getD x false = false := hx.2
        simp only [hx2, Bool.not_false]
      omega
    · have E1 := (E.mono hF).put hv hd2
      refine ⟨E1.1, E1.2.1, fun t => ?_⟩
      have h1 := E1.2.2 t
      have hfun : (fun j => (listed.setIfInBounds i true).getD j false) = fun j => (decide (j = i) || L j) := funext hLget
      rw [hfun, ED_add T D hn hcl hai hLi (fun j => rfl) t aops.length (Nat.le_refl _)]
      rw [hd1] at h1
      by_cases hd : ao.d = some t
      · rw [if_pos ⟨by omega, hd⟩]
        rw [hd, get_put_eq] at h1
        rw [hd1, hd]
        exact h1
      · rw [if_neg (fun h => hd h.2)]
        rw [get_put_ne hd] at h1
        rw [hd1]
        exact h1
end
end Go.AM

end
section
set_option linter.unusedVariables false
set_option linter.unusedSimpArgs false
namespace Go.AM
open Go
section
variable {k : Kr} {h : Heap} {w : World}
theorem new_block_at (H : HRel k h w) {w' : World} {c : Array Value} {e : TypeId} (hw : w'.heap = w.heap.push (.cells c e (0, 0))) (h1 : w'.os = w.os) (h2 : w'.tape = w.tape) (h3 : w'.output = w.output)
    {xs : List AV} {s : Nat} (hs : ∀ y ∈ xs, (cells y).length = s) (hz : xs.length * s ≤ c.size)
    (hc : ∀ i y j x, xs[i]? = some y → (cells y)[j]? = some x → VRel k w x (c.getD (i * s + j) undef)) {id : Nat} (hv : k.vir id) (hid : h[id]? = some none) :
    ∃ k' : Kr, Frw k w k' w' ∧ HRel k' (h.set id (some ⟨0, s, xs⟩)) w' ∧ k'.ok id ∧ k'.loc id = some ⟨0, w.heap.size, 0, s, xs.length⟩ ∧ ∀ i, k.vir i → i ≠ id → k'.vir i := by
  have hlen := (List.getElem?_eq_some_iff.1 hid).1
  have hn : k.n = h.length := H.n
  have hb : ¬ k.ban w.heap.size := fun hb => Nat.lt_irrefl _ (H.banlt _ hb)
  let k' : Kr := { k with loc := fun i => if i = id then some ⟨0, w.heap.size, 0, s, xs.length⟩ else k.loc i, vir := fun i => k.vir i ∧ i ≠ id }
  have hF : Frw k w k' w' := by
    refine ⟨h1, h2, h3, by rw [hw]; simp, fun b hlt hr => ⟨by rw [hw, Array.getElem?_push, if_neg (by omega)], ?_⟩, fun b c e f hc => ?_, Nat.le_refl _, rfl, fun _ _ h => h.1, fun i l' hi g1 => ?_⟩
    · rintro ⟨i, l', g1, rfl⟩
      simp only [k'] at g1
      split at g1
      · simp only [Option.some.injEq] at g1; subst g1; simp at hlt
      · exact hr ⟨i, l', g1, rfl⟩
    · have hlt : b < w.heap.size := (Array.getElem?_eq_some_iff.1 hc).1
      exact ⟨c, e, f, by rw [hw, Array.getElem?_push, if_neg (by omega)]; exact hc, rfl⟩
    · simp only [k'] at g1
      split at g1
      · rename_i e; subst e; exact absurd hv hi.2
      · exact ⟨l', g1, .inl rfl⟩
  refine ⟨k', hF, ?_, ⟨by show id < k.n; omega, fun hv => hv.2 rfl⟩, by simp [k'], fun i hi hne => ⟨hi, hne⟩⟩
  refine ⟨by simp [k', hn], fun i b hib => ?_, fun i hi => ?_, fun i j l m hl hm hlm => ?_, fun i l hl => ?_, fun b hb => Nat.lt_of_lt_of_le (H.banlt b hb) hF.size, fun i hi => ?_⟩
  · by_cases hlt : i = id
    · subst hlt
      rw [List.getElem?_set_self hlen] at hib
      simp at hib
      subst hib
      refine ⟨⟨0, w.heap.size, 0, s, xs.length⟩, by simp [k'], rfl, rfl, rfl, ⟨c, e, by simp [hw], by simpa using hz, fun i y j x g1 g2 => ?_⟩, hs⟩
      have := (hc i y j x g1 g2).monow hF
      simpa using this
    · rw [List.getElem?_set_ne (fun e => hlt e.symm)] at hib
      obtain ⟨l, a1, a2, a3, a4, B⟩ := H.live i b hib
      refine ⟨l, by simp only [k']; rw [if_neg hlt]; exact a1, a2, a3, a4, B.monow hF ?_⟩
      rw [hw, Array.getElem?_push, if_neg (by have := (H.lt a1).2; omega)]
  · simp only [k']
    split
    · rename_i hi'
      subst hi'
      exact absurd (by rw [List.getElem?_set_self hlen]) (hi ⟨0, s, xs⟩)
    · rename_i hi'
      refine H.dead i fun b hb => hi b ?_
      rw [List.getElem?_set_ne (fun e => hi' e.symm)]
      exact hb
  · simp only [k'] at hl hm
    split at hl <;> split at hm
    · rename_i a b; rw [a, b]
    · simp only [Option.some.injEq] at hl
      subst hl
      have := (H.lt hm).2
      simp at hlm; omega
    · simp only [Option.some.injEq] at hm
      subst hm
      have := (H.lt hl).2
      simp at hlm; omega
    · exact H.inj i j l m hl hm hlm
  · simp only [k'] at hl
    split at hl
    · simp only [Option.some.injEq] at hl; subst hl; exact hb
    · exact H.nob i l hl
  · obtain ⟨v1, v2⟩ := H.virlt i hi.1
    refine ⟨v1, ?_⟩
    simp only [k']
    rw [if_neg hi.2]
    exact v2
theorem reserve (H : HRel k h w) (a : Nat) : ∃ k' : Kr, Fr k w k' w ∧ HRel k' (h ++ List.replicate a none) w ∧ ∀ i, h.length ≤ i → i < h.length + a → k'.vir i := by
  have hn : k.n = h.length := H.n
  let k' : Kr := { k with n := k.n + a, vir := fun i => k.vir i ∨ (h.length ≤ i ∧ i < h.length + a) }
  have hF : Fr k w k' w := by
    refine ⟨⟨rfl, rfl, rfl, Nat.le_refl _, fun b _ h => ⟨rfl, h⟩, fun b c e f h => ⟨c, e, f, h, rfl⟩, by simp [k'], rfl, fun i hi hv => ?_, fun i l' _ h => ⟨l', h, .inl rfl⟩⟩, fun i _ hv => .inl hv⟩
    rcases hv with hv | hv
    · exact hv
    · omega
  have hsome : ∀ (i : Nat) (b : Blk), (h ++ List.replicate a none)[i]? = some (some b) → h[i]? = some (some b) := by
    intro i b hib
    by_cases hlt : i < h.length
    · rwa [List.getElem?_append_left hlt] at hib
    · rw [List.getElem?_append_right (by omega), List.getElem?_replicate] at hib
      split at hib <;> simp at hib
  refine ⟨k', hF, ⟨by simp [k', hn], fun i b hib => ?_, fun i hi => ?_, H.inj, H.nob, H.banlt, fun i hi => ?_⟩, fun i h1 h2 => .inr ⟨h1, h2⟩⟩
  · obtain ⟨l, a1, a2, a3, a4, B⟩ := H.live i b (hsome i b hib)
    exact ⟨l, a1, a2, a3, a4, B.mono hF rfl⟩
  · refine H.dead i fun b hb => hi b ?_
    rw [List.getElem?_append_left (List.getElem?_eq_some_iff.1 hb).1]
    exact hb
  · rcases hi with hi | hi
    · obtain ⟨v1, v2⟩ := H.virlt i hi
      exact ⟨by show i < k.n + a; omega, v2⟩
    · refine ⟨by show i < k.n + a; omega, H.dead i fun b hb => ?_⟩
      have := (List.getElem?_eq_some_iff.1 hb).1
      omega
end
section
variable {aops : List AOper} {h : Heap}
def HM (aops : List AOper) (h : Heap) (L : Nat → Bool) : Nat → Heap
  | 0 => h
  | m + 1 => match aops[m]? with
    | some ⟨_, .alloc z, _⟩ => HM aops h L m ++ [if L m then some ⟨0, (cells z).length, [z]⟩ else none]
    | _ => HM aops h L m
theorem HM_alloc {L : Nat → Bool} {m : Nat} {o : AOper} {z : AV} (ho : aops[m]? = some o) (hz : o.op = .alloc z) : HM aops h L (m + 1) = HM aops h L m ++ [if L m then some ⟨0, (cells z).length, [z]⟩ else none] := by
  obtain ⟨d, op, g⟩ := o
  simp only at hz
  subst hz
  simp only [HM, ho]
theorem HM_other {L : Nat → Bool} {m : Nat} (hz : ∀ o, aops[m]? = some o → isAlloc o.op = false) : HM aops h L (m + 1) = HM aops h L m := by
  simp only [HM]
  split
  · rename_i ho; cases hz _ ho
  · rfl
theorem alloc_or (o : AOp) : (∃ z, o = .alloc z) ∨ isAlloc o = false := by cases o <;> first | exact .inr rfl | exact .inl ⟨_, rfl⟩
theorem step_or (m : Nat) : (∃ o z, aops[m]? = some o ∧ o.op = .alloc z) ∨ (∀ o, aops[m]? = some o → isAlloc o.op = false) := by
  cases ho : aops[m]? with
  | none => exact .inr fun o h => by cases h
  | some o =>
    rcases alloc_or o.op with ⟨z, hz⟩ | hz
    · exact .inl ⟨o, z, rfl, hz⟩
    · exact .inr fun o' h => by cases h; exact hz
theorem HM_len (L L' : Nat → Bool) : ∀ m, (HM aops h L m).length = (HM aops h L' m).length := by
  intro m
  induction m with
  | zero => rfl
  | succ m ih =>
    rcases step_or (aops := aops) m with ⟨o, z, ho, hz⟩ | hz
    · rw [HM_alloc ho hz, HM_alloc ho hz]; simp [ih]
    · rw [HM_other hz, HM_other hz, ih]
theorem HM_congr {L L' : Nat → Bool} (hL : ∀ (j : Nat) (o : AOper), aops[j]? = some o → isAlloc o.op = true → L j = L' j) : ∀ m, HM aops h L m = HM aops h L' m := by
  intro m
  induction m with
  | zero => rfl
  | succ m ih =>
    rcases step_or (aops := aops) m with ⟨o, z, ho, hz⟩ | hz
    · rw [HM_alloc ho hz, HM_alloc ho hz, ih, hL m o ho (by rw [hz]; rfl)]
    · rw [HM_other hz, HM_other hz, ih]
theorem HM_pre {L : Nat → Bool} {m : Nat} : ∀ m', m ≤ m' → ∃ r, HM aops h L m' = HM aops h L m ++ r := by
  intro m'
  induction m' with
  | zero => intro hm; have : m = 0 := by omega
            subst this; exact ⟨[], by simp⟩
  | succ m' ih =>
    intro hm
    by_cases he : m = m' + 1
    · subst he; exact ⟨[], by simp⟩
    · obtain ⟨r, hr⟩ := ih (by omega)
      rcases step_or (aops := aops) m' with ⟨o, z, ho, hz⟩ | hz
      · rw [HM_alloc ho hz, hr]; exact ⟨_, List.append_assoc ..⟩
      · rw [HM_other hz]; exact ⟨r, hr⟩
def HN (aops : List AOper) (h : Heap) (j : Nat) : Nat := (HM aops h (fun _ => true) j).length
theorem HN_ge (j : Nat) : h.length ≤ HN aops h j := by
  obtain ⟨r, hr⟩ := HM_pre (aops := aops) (h := h) (L := fun _ => true) (m := 0) j (Nat.zero_le _)
  unfold HN
  rw [hr]
  simp [HM]
theorem HM_at {L : Nat → Bool} {j m : Nat} {o : AOper} {z : AV} (ho : aops[j]? = some o) (hz : o.op = .alloc z) (hm : j < m) : (HM aops h L m)[HN aops h j]? = some (if L j then some ⟨0, (cells z).length, [z]⟩ else none) := by
  obtain ⟨r, hr⟩ := HM_pre (aops := aops) (h := h) (L := L) (m := j + 1) m hm
  have hl : (HM aops h L j).length = HN aops h j := HM_len _ _ _
  rw [hr, HM_alloc ho hz, List.append_assoc, List.getElem?_append_right (by omega), hl]
  simp
theorem HM_ne {j j' : Nat} {o o' : AOper} {z z' : AV} (ho : aops[j]? = some o) (hz : o.op = .alloc z) (ho' : aops[j']? = some o') (hz' : o'.op = .alloc z') (hne : j ≠ j') : HN aops h j ≠ HN aops h j' := by
  intro he
  have h1 := HM_at (h := h) (L := fun i => decide (i = j)) (m := max j j' + 1) ho hz (by omega)
  have h2 := HM_at (h := h) (L := fun i => decide (i = j)) (m := max j j' + 1) ho' hz' (by omega)
  rw [he, h2] at h1
  simp only [decide_true, if_true, Option.some.injEq] at h1
  rw [if_neg (by simpa using fun e => hne e.symm)] at h1
  cases h1
theorem HM_set {L L' : Nat → Bool} {i : Nat} {o : AOper} {z : AV} (ho : aops[i]? = some o) (hz : o.op = .alloc z) (hL : ∀ j, L' j = (decide (j = i) || L j)) : ∀ m, i < m → HM aops h L' m = (HM aops h L m).set (HN aops h i) (some ⟨0, (cells z).length, [z]⟩) := by
  have hlow : ∀ m, m ≤ i → HM aops h L' m = HM aops h L m := by
    intro m
    induction m with
    | zero => intro _; rfl
    | succ m ih =>
      intro hm
      have h1 : L' m = L m := by rw [hL, decide_eq_false (by omega)]; rfl
      rcases step_or (aops := aops) m with ⟨o', z', ho', hz'⟩ | hz'
      · rw [HM_alloc ho' hz', HM_alloc ho' hz', ih (by omega), h1]
      · rw [HM_other hz', HM_other hz', ih (by omega)]
  intro m
  induction m with
  | zero => intro hm; omega
  | succ m ih =>
    intro hm
    by_cases he : m = i
    · subst he
      have hl : (HM aops h L m).length = HN aops h m := HM_len _ _ _
      have h1 : L' m = true := by rw [hL]; simp
      have hn : ¬ HN aops h m < (HM aops h L m).length := by omega
      rw [HM_alloc ho hz, HM_alloc ho hz, hlow m (Nat.le_refl _), List.set_append, if_neg hn, hl, Nat.sub_self, h1]
      simp
    · have h1 : L' m = L m := by rw [hL, decide_eq_false he]; rfl
      rcases step_or (aops := aops) m with ⟨o', z', ho', hz'⟩ | hz'
      · have hlt : HN aops h i < (HM aops h L m).length := by
          have := HM_at (h := h) (L := L) (m := m) ho hz (by omega)
          exact (List.getElem?_eq_some_iff.1 this).1
        rw [HM_alloc ho' hz', HM_alloc ho' hz', ih (by omega), h1, List.set_append, if_pos hlt]
      · rw [HM_other hz', HM_other hz', ih (by omega)]
theorem HM_none : ∀ m, ∃ a, HM aops h (fun _ => false) m = h ++ List.replicate a none := by
  intro m
  induction m with
  | zero => exact ⟨0, by simp [HM]⟩
  | succ m ih =>
    obtain ⟨a, ih⟩ := ih
    rcases step_or (aops := aops) m with ⟨o, z, ho, hz⟩ | hz
    · rw [HM_alloc ho hz, ih]
      exact ⟨a + 1, by rw [List.append_assoc, List.replicate_succ']; rfl⟩
    · rw [HM_other hz]; exact ⟨a, ih⟩
theorem loadA_more {s : Nat} {ag : Bool} {x y : AV} {r : Heap} (hx : loadA h s ag x = some y) : loadA (h ++ r) s ag x = some y := by
  cases x <;> simp only [loadA] at hx ⊢ <;> try exact hx
  rename_i id v i j
  obtain ⟨b, hb, hx⟩ := Option.bind_eq_some_iff.1 hx
  rw [Option.bind_eq_some_iff]
  refine ⟨b, ?_, hx⟩
  unfold blk at hb ⊢
  cases hid : h[id]? with
  | none => rw [hid] at hb; cases hb
  | some q =>
    rw [List.getElem?_append_left (List.getElem?_eq_some_iff.1 hid).1, hid]
    rw [hid] at hb
    exact hb
theorem load_more {C : CR} {env : Env} {o : AOper} {x : AV} {h' r : Heap} (hl : isLoad o.op = true) (ho : operA C o env h = some (x, h')) : operA C o env (h ++ r) = some (x, h ++ r) := by
  obtain ⟨d, op, g⟩ := o
  cases op <;> first | (cases hl; done) | skip
  rename_i s ag a
  have one : ∀ {x h'}, opA C (ev env) h (.load s ag a) = some (x, h') → opA C (ev env) (h ++ r) (.load s ag a) = some (x, h ++ r) := by
    intro x h' ho
    simp only [opA, Option.map_eq_some_iff, Prod.mk.injEq] at ho ⊢
    obtain ⟨y, hy, rfl, rfl⟩ := ho
    exact ⟨y, loadA_more hy, rfl, trivial⟩
  unfold operA at ho ⊢
  simp only at ho ⊢
  split at ho
  · exact one ho
  · split at ho
    · split at ho
      · rename_i hb; rw [if_pos hb]; exact one ho
      · rename_i hb
        simp only [Option.some.injEq, Prod.mk.injEq] at ho
        obtain ⟨rfl, rfl⟩ := ho
        rw [if_neg hb]
    · simp only [Option.some.injEq, Prod.mk.injEq] at ho
      obtain ⟨rfl, rfl⟩ := ho
      rfl
    · cases ho
end
end Go.AM

end
section
set_option linter.unusedVariables false
set_option linter.unusedSimpArgs false
namespace Go.AM
open Go
theorem alloc_sound {P : Program} {nt : Nat} {k : Kr} {h : Heap} {w : World} {a : Act} {ops : Array Oper} {o : Oper} {ao : AOper} {i : Nat} {z : AV} (hi : ops[i]? = some o) (hk : chkOper P nt ops.toList o ao = true) (hz : ao.op = .alloc z) (hg : ao.g = none) (H : HRel k h w)
    {id : Nat} (hv : k.vir id) (hid : h[id]? = some none) {Q : Exit → Act → World → Prop} {K : Act → World → Prop}
    (hK : ∀ v k' w', Frw k w k' w' → (∀ i, k.vir i → i ≠ id → k'.vir i) → HRel k' (h.set id (some ⟨0, (cells z).length, [z]⟩)) w' → VRel k' w' (.ptr id 0 0 0) v → K (a.put o.dst v) w') : wpOp P ops Q i K a w := by
  simp only [chkOper, Bool.and_eq_true, decide_eq_true_eq] at hk
  obtain ⟨⟨⟨h1, h2⟩, h3⟩, h4⟩ := hk
  have hg2 : o.guard = none := by
    rw [hg] at h4
    cases hh : o.guard with
    | none => rfl
    | some q => rw [hh] at h4; cases h4
  unfold wpOp
  simp only [hi]
  have hw : Region.wanted o (yielded ops a.tmps) = true := by simp [Region.wanted, hg2]
  rw [if_pos hw]
  refine .inl ?_
  rw [hz] at h3
  obtain ⟨od, oop, ty, pos, oa, og⟩ := o
  simp only at h3 hK ⊢
  cases oop <;> first | (cases h3; done) | (exfalso; cases ‹Fn› <;> simp [chkOp] at h3; done) | (exfalso; rename_i c; obtain ⟨callee, _, _⟩ := c; revert h3; cases callee <;> simp [chkOp]; done) | skip
  rename_i t
  obtain ⟨i', zv, g1, g2, g3, g4, g5⟩ := zeroOk_some h3
  obtain ⟨hz, hzc⟩ := valOk_rel g3 k w
  obtain ⟨q1, q2, q3⟩ := hz.cellsOf hzc
  obtain ⟨k', hF, hH, hok, hloc, hvir⟩ := new_block_at (w' := w.alloc (.cells zv.cells t)) (c := zv.cells) (e := t) (xs := [z]) (s := (cells z).length) H rfl rfl rfl rfl (by simp) (by simp [q1]) (fun i y j x hi hj => by
      cases i with
      | zero => simp at hi; subst hi; simpa using q2 j x hj
      | succ i => simp at hi) hv hid
  have hr : (execOp a.eval ⟨od, .alloc t, ty, pos, oa, og⟩).run P w = .ok (.value (.pointer (some ⟨w.heap.size, 0, none⟩))) (w.alloc (.cells zv.cells t)) := by
    simp [execOp, Instr.alloc, zeroValue, typeInfo, g1, g2, newVar, newRow]
  unfold Oper.wp
  rw [hr]
  refine hK _ k' _ hF hvir hH (.ptr _ _ _ _ _ hok fun l hl => ?_)
  rw [hloc] at hl
  simp only [Option.some.injEq] at hl
  subst hl
  exact ⟨Nat.le_refl _, fun _ => by simp⟩
section
variable {P : Program} {nt : Nat} {C : CR} {ops : Array Oper} {aops : List AOper} {plan : List (Nat × Nat)} {env env' : Env} {h h' : Heap}
theorem all_come (D : Draw ops aops plan) {listed : Array Bool} (hs : listed.size = ops.size) (hr : Region.ready .any ops listed = []) : ∀ j, j < ops.size → listed.getD j false = true := by
  intro j
  induction j using Nat.strongRecOn with
  | _ j ih =>
    intro hj
    cases hlj : listed.getD j false with
    | true => rfl
    | false =>
      have hmem : j ∈ Region.ready .any ops listed := by
        rw [mem_ready]
        refine ⟨?_, ops[j], Array.getElem?_eq_getElem hj, fun e he hb => ?_⟩
        · have hjs : j < listed.size := by omega
          simpa [hjs] using hlj
        · have := D.back j ops[j] (Array.getElem?_eq_getElem hj) e he hb
          exact ih e.on this (by omega)
      rw [hr] at hmem
      cases hmem
theorem HM_trace (T : Trace C aops env h env' h') {p : Nat} (hp : p ≤ aops.length) (hph : ∀ (j : Nat) (q : AOper), aops[j]? = some q → heavy q.op = true → isAlloc q.op = false → p ≤ j) (hg : ∀ (j : Nat) (q : AOper), aops[j]? = some q → isAlloc q.op = true → q.g = none) :
    ∀ m, m ≤ p → (T.f m).2 = HM aops h (fun _ => true) m ∧ ∀ (q : AOper) (z : AV), aops[m]? = some q → q.op = .alloc z → T.X m = .ptr (HN aops h m) 0 0 0 := by
  intro m
  have key : ∀ m, (T.f m).2 = HM aops h (fun _ => true) m → ∀ (q : AOper) (z : AV), aops[m]? = some q → q.op = .alloc z → T.X m = .ptr (HN aops h m) 0 0 0 ∧ (T.f (m + 1)).2 = HM aops h (fun _ => true) (m + 1) := by
    intro m hm q z hq hz
    obtain ⟨h1, _⟩ := T.step m q hq
    have hgn : q.g = none := hg m q hq (by rw [hz]; rfl)
    simp only [operA, hgn, hz, opA, Option.some.injEq, Prod.mk.injEq] at h1
    rw [HM_alloc hq hz, ← h1.2, ← h1.1, hm]
    exact ⟨rfl, by simp⟩
  induction m with
  | zero => intro _; exact ⟨by rw [T.zero]; rfl, fun q z hq hz => (key 0 (by rw [T.zero]; rfl) q z hq hz).1⟩
  | succ m ih =>
    intro hm
    obtain ⟨ih1, ih2⟩ := ih (by omega)
    have hcur : (T.f (m + 1)).2 = HM aops h (fun _ => true) (m + 1) := by
      rcases step_or (aops := aops) m with ⟨o, z, ho, hz⟩ | hz
      · exact (key m ih1 o z ho hz).2
      · obtain ⟨q, hq⟩ : ∃ q, aops[m]? = some q := ⟨aops[m], List.getElem?_eq_getElem (by omega)⟩
        rw [HM_other hz, ← ih1]
        have hl : heavy q.op = false := by
          cases hh : heavy q.op with
          | false => rfl
          | true => have := hph m q hq hh (hz q hq); omega
        exact (operA_light hl (T.step m q hq).1).1
    exact ⟨hcur, fun q z hq hz => (key (m + 1) hcur q z hq hz).1⟩
theorem draw_goA (hC : CSound P C) (T : Trace C aops env h env' h') (D : Draw ops aops plan) (hn : aops.length = ops.size) (hch : ∀ (j : Nat) (ao : AOper), aops[j]? = some ao → ∃ o, ops[j]? = some o ∧ chkOper P nt ops.toList o ao = true)
    (hst : plan.all (stableA C env' (h :: heapsA C aops env h) aops) = true) {Q : Exit → Act → World → Prop} (hlo : loose ops.toList aops = true) {p : Nat} (hp : p ≤ aops.length) (hpa : ∀ (j : Nat) (q : AOper), aops[j]? = some q → isAlloc q.op = true → j < p)
    (hph : ∀ (j : Nat) (q : AOper), aops[j]? = some q → heavy q.op = true → isAlloc q.op = false → p ≤ j) {k0 : Kr} {w0 : World} (hk0 : k0.n = h.length)
    (hQ : ∀ a' k' w', Fr k0 w0 k' w' → HRel k' h' w' → ERel nt k' w' env' a' → Q .normal a' w') :
    ∀ (fuel : Nat) (listed : Array Bool) (a : Act) (w : World) (k : Kr), listed.size = ops.size → Closed ops (fun j => listed.getD j false) → (List.range ops.size).countP (fun j => !listed.getD j false) ≤ fuel →
      (∀ (j : Nat) (q : AOper), aops[j]? = some q → heavy q.op = true → isAlloc q.op = false → listed.getD j false = false) → HRel k (HM aops h (fun j => listed.getD j false) p) w → ERel nt k w (ED T (fun j => listed.getD j false) aops.length) a →
      (∀ (j : Nat) (q : AOper), aops[j]? = some q → isAlloc q.op = true → listed.getD j false = false → k.vir (HN aops h j)) → Fr k0 w0 k w →
      (∃ (j : Nat) (q : AOper), aops[j]? = some q ∧ isAlloc q.op = true ∧ listed.getD j false = false) → wpAny P .any ops Q fuel listed a w := by
  have hT := HM_trace T hp hph (fun j q hj hq => (D.loos hlo j q hj hq).1)
  intro fuel
  induction fuel with
  | zero =>
    intro listed a w k hs hcl hcnt hhv H E hvir hF0 ⟨j, q, hj, hq, hlj⟩
    exfalso
    have hjl := (List.getElem?_eq_some_iff.1 hj).1
    have : 0 < (List.range ops.size).countP (fun j => !listed.getD j false) := List.countP_pos_iff.2 ⟨j, List.mem_range.2 (by omega), by rw [hlj]; rfl⟩
    omega
  | succ fuel ih =>
    intro listed a w k hs hcl hcnt hhv H E hvir hF0 hex
    refine ⟨fun hr => ?_, fun i hi => ?_⟩
    · exfalso
      obtain ⟨j, q, hj, hq, hlj⟩ := hex
      have hjl := (List.getElem?_eq_some_iff.1 hj).1
      rw [all_come D hs hr j (by omega)] at hlj
      cases hlj
    obtain ⟨h0, o, hio, hwait⟩ := mem_ready.1 hi
    have hilt := (Array.getElem?_eq_some_iff.1 hio).1
    have hLi : listed.getD i false = false := by
      have : i < listed.size := by omega
      simp [this] at h0 ⊢
      exact h0
    obtain ⟨ao, hai⟩ : ∃ ao, aops[i]? = some ao := ⟨aops[i], List.getElem?_eq_getElem (by omega)⟩
    obtain ⟨o', hio', hk⟩ := hch i ao hai
    obtain rfl : o' = o := by rw [hio] at hio'; simpa using hio'.symm
    let L : Nat → Bool := fun j => listed.getD j false
    have hwb : ∀ j, bef ops.toList i j = true → L j = true := fun j hb => bef_in hcl i j o' hio (fun e he hbd => hwait e he hbd) hb
    have hLget : ∀ j, (listed.setIfInBounds i true).getD j false = (decide (j = i) || L j) := by
      intro j
      by_cases hj : j = i
      · subst hj
        have : j < listed.size := by omega
        simp [this]
      · have : i ≠ j := fun e => hj e.symm
        simp [Array.getElem?_setIfInBounds_ne this, hj, L]
    obtain ⟨hs1, hs2⟩ := T.step i ao hai
    have hlook : ∀ t ∈ ao.looks, get (ED T L aops.length) t = get (T.f i).1 t := fun t ht => by
      have := looks_eq T D hn hcl hai hLi hwb ht aops.length (Nat.le_refl _)
      rwa [show min aops.length i = i by omega] at this
    obtain ⟨hd1, hd2⟩ := chk_dst hk
    have hcl' : Closed ops (fun j => (listed.setIfInBounds i true).getD j false) := by
      intro j oj hj hLj e he hb
      simp only at hLj ⊢
      rw [hLget] at hLj
      rw [hLget]
      simp only [Bool.or_eq_true, decide_eq_true_eq] at hLj ⊢
      right
      rcases hLj with rfl | hLj
      · have : oj = o' := by rw [hio] at hj; simpa using hj.symm
        subst this
        exact hwait e he hb
      · exact hcl j oj hj hLj e he hb
    have hcnt' : (List.range ops.size).countP (fun j => !(listed.setIfInBounds i true).getD j false) ≤ fuel := by
      have : (List.range ops.size).countP (fun j => !(listed.setIfInBounds i true).getD j false) < (List.range ops.size).countP (fun j => !listed.getD j false) := by
        refine countP_lt (fun x hx => ?_) (List.mem_range.2 hilt) (by simpa using hLi) (by rw [hLget]; simp)
        rw [hLget] at hx
        simp only [Bool.not_eq_true', Bool.or_eq_false_iff] at hx
        have hx2 : listed.getD x false = false := hx.2
        simp only [hx2, Bool.not_false]
      omega
    have hfun : (fun j => (listed.setIfInBounds i true).getD j false) = fun j => (decide (j = i) || L j) := funext hLget
    have next : ∀ (v : Value) (k' : Kr) (w' : World), Frw k w k' w' → Fr k0 w0 k' w' → HRel k' (HM aops h (fun j => (decide (j = i) || L j)) p) w' → VRel k' w' (T.X i) v → (∀ (j : Nat) (q : AOper), aops[j]? = some q → isAlloc q.op = true → j ≠ i → L j = false → k'.vir (HN aops h j)) →
        (heavy ao.op = true → isAlloc ao.op = true) → wpAny P .any ops Q fuel (listed.setIfInBounds i true) (a.put o'.dst v) w' := by
      intro v k' w' hF hF0' hH hv hvir' hha
      have E' : ERel nt k' w' (ED T (fun j => (listed.setIfInBounds i true).getD j false) aops.length) (a.put o'.dst v) := by
        have E1 := (E.monow hF).put hv hd2
        refine ⟨E1.1, E1.2.1, fun t => ?_⟩
        have h1 := E1.2.2 t
        rw [hfun, ED_add T D hn hcl hai hLi (fun j => rfl) t aops.length (Nat.le_refl _)]
        rw [hd1] at h1
        by_cases hd : ao.d = some t
        · rw [if_pos ⟨by omega, hd⟩]
          rw [hd, get_put_eq] at h1
          rw [hd1, hd]
          exact h1
        · rw [if_neg (fun h => hd h.2)]
          rw [get_put_ne hd] at h1
          rw [hd1]
          exact h1
      have hhv' : ∀ (j : Nat) (q : AOper), aops[j]? = some q → heavy q.op = true → isAlloc q.op = false → (listed.setIfInBounds i true).getD j false = false := by
        intro j q hj hq hqa
        rw [hLget]
        have : j ≠ i := by
          intro e
          subst e
          rw [hai] at hj
          simp only [Option.some.injEq] at hj
          subst hj
          rw [hha hq] at hqa; cases hqa
        rw [decide_eq_false this]
        exact hhv j q hj hq hqa
      by_cases hex' : ∃ (j : Nat) (q : AOper), aops[j]? = some q ∧ isAlloc q.op = true ∧ (listed.setIfInBounds i true).getD j false = false
      · refine ih (listed.setIfInBounds i true) _ w' k' (by simpa using hs) hcl' hcnt' hhv' (by rw [hfun]; exact hH) E' (fun j q hj hq hl => ?_) hF0' hex'
        rw [hLget] at hl
        simp only [Bool.or_eq_false_iff, decide_eq_false_iff_not] at hl
        exact hvir' j q hj hq hl.1 hl.2
      · have hall : ∀ (j : Nat) (q : AOper), aops[j]? = some q → isAlloc q.op = true → (listed.setIfInBounds i true).getD j false = true := by
          intro j q hj hq
          cases hl : (listed.setIfInBounds i true).getD j false with
          | true => rfl
          | false => exact absurd ⟨j, q, hj, hq, hl⟩ hex'
        refine draw_go hC T D hn hch hst fuel (listed.setIfInBounds i true) _ w' k' p (by simpa using hs) hcl' hcnt' hp (fun j q hj hq => ?_) ?_ E' (fun _ => hall) fun a' k2 w2 hF2 hH2 E2 => hQ a' k2 w2 (hF0'.trans hF2) hH2 E2
        · cases hqa : isAlloc q.op with
          | true => exact ⟨fun _ => hpa j q hj hqa, fun _ => hall j q hj hqa⟩
          | false =>
            rw [hhv' j q hj hq hqa]
            have := hph j q hj hq hqa
            exact ⟨fun h => (by cases h), fun h => by omega⟩
        · rw [(hT p (Nat.le_refl _)).1]
          have : HM aops h (fun j => (decide (j = i) || L j)) p = HM aops h (fun _ => true) p := HM_congr (fun j q hj hq => by rw [← hLget]; exact hall j q hj hq) p
          rw [← this]
          exact hH
    rcases alloc_or ao.op with ⟨z, hz⟩ | hna
    · have hia : isAlloc ao.op = true := by rw [hz]; rfl
      have hip := hpa i ao hai hia
      have hat := HM_at (h := h) (L := L) (m := p) hai hz hip
      have hLi' : L i = false := hLi
      rw [hLi'] at hat
      refine alloc_sound hio hk hz (D.loos hlo i ao hai hia).1 H (hvir i ao hai hia hLi) (hat.trans (by simp)) fun v k' w' hF hv2 hH hv => ?_
      have hvn : ∀ (j : Nat) (q : AOper), aops[j]? = some q → isAlloc q.op = true → j ≠ i → L j = false → k'.vir (HN aops h j) := by
        intro j q hj hq hne hl
        refine hv2 _ (hvir j q hj hq hl) ?_
        rcases alloc_or q.op with ⟨z', hz'⟩ | hqa
        · exact HM_ne hj hz' hai hz hne
        · rw [hqa] at hq; cases hq
      refine next v k' w' hF ⟨hF0.toFrw.trans hF, fun id hid hv => hv2 id (hF0.vir2 id hid hv) ?_⟩ ?_ ?_ hvn fun _ => hia
      · have := HN_ge (aops := aops) (h := h) i
        omega
      · rw [HM_set (L := L) hai hz (fun j => rfl) p hip]
        exact hH
      · rw [(hT i (by omega)).2 ao z hai hz]
        exact hv
    · have hl : heavy ao.op = false := by
        cases hh : heavy ao.op with
        | false => rfl
        | true =>
          exfalso
          obtain ⟨j, q, hj, hq, hlj⟩ := hex
          have := hwb j (((D.loos hlo j q hj hq).2 i ao hai).1 hh hna)
          have hlj' : L j = false := hlj
          rw [this] at hlj'; cases hlj'
      have hop : operA C ao (ED T L aops.length) (HM aops h L p) = some (T.X i, HM aops h L p) := by
        rw [operA_congr hlook]
        cases hld : isLoad ao.op with
        | false => exact (operA_light hl hs1).2 hld _
        | true =>
          obtain ⟨r, hr⟩ := HM_pre (aops := aops) (h := h) (L := L) (m := 0) p (Nat.zero_le _)
          have hr : HM aops h L p = h ++ r := hr
          rw [hr]
          obtain ⟨j, q, hj, hq, hlj⟩ := hex
          have hlj' : L j = false := hlj
          rcases ((D.loos hlo j q hj hq).2 i ao hai).2 hld with hb | hb | hb
          · rw [hwb j hb] at hlj'; cases hlj'
          · have := calm_eq T (Nat.zero_le i) (by omega) hb
            rw [T.zero] at this
            rw [this] at hs1
            exact load_more hld hs1
          · have hs := stable_load T D hai hld hst hb (Nat.zero_le _)
            rw [T.zero] at hs
            exact load_more hld hs
      refine oper_sound hC hio hk E H hop fun v k' w' hF hH hv => ?_
      have hvn : ∀ (j : Nat) (q : AOper), aops[j]? = some q → isAlloc q.op = true → j ≠ i → L j = false → k'.vir (HN aops h j) := by
        intro j q hj hq hne hlj
        have hv := hvir j q hj hq hlj
        exact hF.vir2 _ (H.virlt _ hv).1 hv
      refine next v k' w' hF.toFrw (hF0.trans hF) ?_ hv hvn fun hh => by rw [hl] at hh; cases hh
      have : HM aops h (fun j => (decide (j = i) || L j)) p = HM aops h L p := HM_congr (fun j q hj hq => by
        have : j ≠ i := by
          intro e
          subst e
          rw [hai] at hj
          simp only [Option.some.injEq] at hj
          subst hj
          rw [hna] at hq; cases hq
        rw [decide_eq_false this]; rfl) p
      rw [this]
      exact hH
theorem bef_lt (D : Draw ops aops plan) {i j : Nat} {o : Oper} (ho : ops[i]? = some o) (hb : bef ops.toList i j = true) : j < i := by
  have := bef_in (L := fun x => decide (x < i)) (fun i' o' ho' hL e he hbd => by
    have := D.back i' o' ho' e he hbd
    simp only [decide_eq_true_eq] at hL ⊢
    omega) i j o ho (fun e he hbd => by simpa using D.back i o ho e he hbd) hb
  simpa using this
theorem last_alloc (aops : List AOper) : ∀ n, n ≤ aops.length → ∃ p, p ≤ n ∧ (∀ (j : Nat) (q : AOper), j < n → aops[j]? = some q → isAlloc q.op = true → j < p) ∧ (p = 0 ∨ ∃ j q, p = j + 1 ∧ aops[j]? = some q ∧ isAlloc q.op = true) := by
  intro n
  induction n with
  | zero => intro _; exact ⟨0, Nat.le_refl _, fun j q hj => by omega, .inl rfl⟩
  | succ n ih =>
    intro hn
    obtain ⟨p, h1, h2, h3⟩ := ih (by omega)
    obtain ⟨q, hq⟩ : ∃ q, aops[n]? = some q := ⟨aops[n], List.getElem?_eq_getElem (by omega)⟩
    cases ha : isAlloc q.op with
    | true => exact ⟨n + 1, Nat.le_refl _, fun j q hj _ _ => hj, .inr ⟨n, q, rfl, hq, ha⟩⟩
    | false =>
      refine ⟨p, by omega, fun j q' hj hq' ha' => ?_, h3⟩
      by_cases he : j = n
      · subst he
        rw [hq] at hq'
        simp only [Option.some.injEq] at hq'
        subst hq'
        rw [ha] at ha'; cases ha'
      · exact h2 j q' (by omega) hq' ha'
theorem draw_all (hC : CSound P C) (T : Trace C aops env h env' h') (D : Draw ops aops plan) (hn : aops.length = ops.size) (hch : ∀ (j : Nat) (ao : AOper), aops[j]? = some ao → ∃ o, ops[j]? = some o ∧ chkOper P nt ops.toList o ao = true)
    (hst : plan.all (stableA C env' (h :: heapsA C aops env h) aops) = true) {Q : Exit → Act → World → Prop} {k : Kr} {w : World} {a : Act} (H : HRel k h w) (E : ERel nt k w env a)
    (hQ : ∀ a' k' w', Fr k w k' w' → HRel k' h' w' → ERel nt k' w' env' a' → Q .normal a' w') : wpAny P .any ops Q ops.size (Array.replicate ops.size false) a w := by
  have hfalse : ∀ j, (Array.replicate ops.size false).getD j false = false := by
    intro j
    simp only [Array.getD_eq_getD_getElem?, Array.getElem?_replicate]
    split <;> rfl
  have hfun : (fun j => (Array.replicate ops.size false).getD j false) = fun _ => false := funext hfalse
  have hcl : Closed ops (fun j => (Array.replicate ops.size false).getD j false) := by
    intro i o hi hL
    simp only [hfalse] at hL
    cases hL
  have hcnt : (List.range ops.size).countP (fun j => !(Array.replicate ops.size false).getD j false) ≤ ops.size := Nat.le_trans List.countP_le_length (by simp)
  have hED : ∀ m, ED T (fun j => (Array.replicate ops.size false).getD j false) m = env := by
    intro m
    induction m with
    | zero => rfl
    | succ m ih =>
      simp only [ED, hfalse]
      split
      · simp only [Bool.false_eq_true, if_false]
        simpa only [hfalse] using ih
      · simpa only [hfalse] using ih
  by_cases hlo : loose ops.toList aops = true
  · obtain ⟨p, hp, hpa, hpl⟩ := last_alloc aops aops.length (Nat.le_refl _)
    have hpa' : ∀ (j : Nat) (q : AOper), aops[j]? = some q → isAlloc q.op = true → j < p := fun j q hj => hpa j q (List.getElem?_eq_some_iff.1 hj).1 hj
    have hex : ∃ (j : Nat) (q : AOper), aops[j]? = some q ∧ isAlloc q.op = true := by
      unfold loose at hlo
      obtain ⟨⟨o, j⟩, hq, hr⟩ := List.any_eq_true.1 hlo
      obtain ⟨⟨q, i⟩, _, hr⟩ := List.any_eq_true.1 hr
      rw [List.mem_zipIdx_iff_getElem?] at hq
      simp only [Bool.and_eq_true] at hr
      exact ⟨j, o, hq, hr.1.2⟩
    obtain ⟨b, hb⟩ := HM_none (aops := aops) (h := h) p
    obtain ⟨k', hF, hH, hv⟩ := reserve H b
    have hlenp : HN aops h p = h.length + b := by
      have : (HM aops h (fun _ => true) p).length = (HM aops h (fun _ => false) p).length := HM_len _ _ _
      unfold HN
      rw [this, hb]; simp
    refine draw_goA hC T D hn hch hst hlo hp hpa' (fun j q hj hq hqa => ?_) H.n hQ ops.size (Array.replicate ops.size false) a w k' (by simp) hcl hcnt (fun j q _ _ _ => hfalse j) ?_ ?_ (fun j q hj hq _ => ?_) hF ?_
    · rcases hpl with rfl | ⟨j', q', rfl, hj', hq'⟩
      · exact Nat.zero_le _
      · have := ((D.loos hlo j' q' hj' hq').2 j q hj).1 hq hqa
        have hjl := (List.getElem?_eq_some_iff.1 hj).1
        have := bef_lt D (Array.getElem?_eq_getElem (by omega : j < ops.size)) this
        omega
    · rw [hfun, hb]; exact hH
    · rw [hED]; exact E.mono hF
    · refine hv _ (HN_ge j) ?_
      rw [← hlenp]
      rcases alloc_or q.op with ⟨z, hz⟩ | hqa
      · have := HM_at (h := h) (L := fun _ => true) (m := p) hj hz (hpa' j q hj hq)
        exact (List.getElem?_eq_some_iff.1 this).1
      · rw [hqa] at hq; cases hq
    · obtain ⟨j, q, hj, hq⟩ := hex
      exact ⟨j, q, hj, hq, hfalse j⟩
  · refine draw_go hC T D hn hch hst ops.size (Array.replicate ops.size false) a w k 0 (by simp) hcl hcnt (Nat.zero_le _) (fun j q hj _ => ?_) ?_ ?_ (fun h => absurd h hlo) hQ
    · rw [hfalse]
      exact ⟨fun h => (by cases h), fun h => by omega⟩
    · rw [T.zero]; exact H
    · rw [hED]; exact E
end
end Go.AM

end
section
set_option linter.unusedVariables false
set_option linter.unusedSimpArgs false
namespace Go.AM
open Go
def chkC (P : Program) (nt : Nat) : Code → ACode → Bool
  | .skip, .skip => true
  | .region _ ops draw, .reg aops => !draw && all2 (chkOper P nt ops.toList) ops.toList aops
  | .region _ ops draw, .regd aops plan => draw && P.follows .mixedOrders && all2 (chkOper P nt ops.toList) ops.toList aops && chkDraw ops.toList aops plan
  | .seq a b, .seq a' b' => chkC P nt a a' && chkC P nt b b'
  | .cond c a b, .cond c' a' b' => opdOk c c' && chkC P nt a a' && chkC P nt b b'
  | .block id a, .block id' a' => id == id' && chkC P nt a a'
  | .loop a, .loop a' => chkC P nt a a'
  | .exit id, .exit id' => id == id'
  | .ret, .ret => true
  | c, .frz _ a => chkC P nt c a
  | _, .fail => true
  | _, _ => false
def exOf : Ex → Exit
  | .normal => .normal
  | .exit id => .exit id
  | .ret => .ret
def QP (nt : Nat) (k : Kr) (w : World) (e : Ex) (s : St) : Exit → Act → World → Prop := fun e' a' w' => e' = exOf e ∧ ∃ k', Fr k w k' w' ∧ HRel k' s.h w' ∧ ERel nt k' w' s.env a'
theorem get_keep (env : Env) (t : Nat) : ∀ ks : List Nat, get (St.keep ks env) t = get env t ∨ get (St.keep ks env) t = .undef := by
  intro ks
  induction ks with
  | nil => exact .inr rfl
  | cons i ks ih =>
    simp only [St.keep, List.map_cons, get]
    split
    · rename_i h; subst h; exact .inl rfl
    · exact ih
theorem ERel.keep {nt k w env a} (E : ERel nt k w env a) (ks : List Nat) : ERel nt k w (St.keep ks env) a := by
  refine ⟨E.1, E.2.1, fun t => ?_⟩
  rcases get_keep env t ks with h | h
  · rw [h]; exact E.2.2 t
  · rw [h]; exact .undef _
theorem drew_fr (k : Kr) (w : World) : Fr k w k { w with drawn := w.drawn + 1 } :=
  ⟨⟨rfl, rfl, rfl, Nat.le_refl _, fun b _ h => ⟨rfl, h⟩, fun b c e f h => ⟨c, e, f, h, rfl⟩, Nat.le_refl _, rfl, fun _ _ h => h, fun id l' _ h => ⟨l', h, .inl rfl⟩⟩, fun _ _ h => h⟩
section
variable {P : Program} {nt : Nat}
def LSound (P : Program) (nt : Nat) (L : LR) : Prop := ∀ (c : Code) (ac : ACode) (s : St) (e : Ex) (s' : St) (k : Kr) (w : World) (a : Act), chkC P nt c ac = true → L ac s = some (e, s') → HRel k s.h w → ERel nt k w s.env a → (Code.loop c).wp P (QP nt k w e s') a w
theorem exec_sound {C : CR} {L : LR} {ks : List Nat} (hC : CSound P C) (hL : LSound P nt L) : ∀ (ac : ACode) (c : Code) (s : St) (e : Ex) (s' : St) (k : Kr) (w : World) (a : Act),
    chkC P nt c ac = true → exec C L ks ac s = some (e, s') → HRel k s.h w → ERel nt k w s.env a → c.wp P (QP nt k w e s') a w := by
  intro ac
  induction ac with
  | skip =>
    intro c s e s' k w a hk hx H E
    cases c <;> first | (cases hk; done) | skip
    simp only [exec, Option.some.injEq, Prod.mk.injEq] at hx
    obtain ⟨rfl, rfl⟩ := hx
    exact wp_skip ⟨rfl, k, Fr.refl k w, H, E⟩
  | reg aops =>
    intro c s e s' k w a hk hx H E
    cases c <;> first | (cases hk; done) | skip
    rename_i id ops draw
    simp only [chkC, Bool.and_eq_true, Bool.not_eq_true'] at hk
    obtain ⟨rfl, hk⟩ := hk
    obtain ⟨m1, m2⟩ := all2_spec hk
    simp only [exec, Option.map_eq_some_iff, Prod.mk.injEq] at hx
    obtain ⟨⟨env', h'⟩, hr, rfl, rfl⟩ := hx
    rw [Array.length_toList] at m1
    refine wp_region ?_
    rw [List.range_eq_range', m1]
    refine reg_sound hC aops 0 k s.h w s.env a env' h' (by omega) (fun j ao hj => ?_) E H hr fun a' k' w' hF H' E' => ⟨rfl, k', hF, H', E'.keep ks⟩
    obtain ⟨o, ho, hk⟩ := m2 j ao hj
    exact ⟨o, by rw [Nat.zero_add, ← Array.getElem?_toList]; exact ho, hk⟩
  | regd aops plan =>
    intro c s e s' k w a hk hx H E
    cases c <;> first | (cases hk; done) | skip
    rename_i id ops draw
    simp only [chkC, Bool.and_eq_true] at hk
    obtain ⟨⟨⟨rfl, hm⟩, hk⟩, hd⟩ := hk
    obtain ⟨m1, m2⟩ := all2_spec hk
    simp only [exec] at hx
    obtain ⟨⟨env', h'⟩, hr, hx⟩ := Option.bind_eq_some_iff.1 hx
    split at hx
    · rename_i hst
      simp only [Option.some.injEq, Prod.mk.injEq] at hx
      obtain ⟨rfl, rfl⟩ := hx
      rw [Array.length_toList] at m1
      obtain ⟨T⟩ := trace_of aops s.env s.h env' h' hr
      have hF0 := drew_fr k w
      have H0 : HRel k s.h { w with drawn := w.drawn + 1 } := H.same hF0 fun b _ => rfl
      refine wp_region_any hm ?_
      refine draw_all hC T (draw_of hd) m1.symm (fun j ao hj => ?_) hst H0 (E.mono hF0) fun a' k' w' hF H' E' => ⟨rfl, k', hF0.trans hF, H', E'.keep ks⟩
      obtain ⟨o, ho, hk⟩ := m2 j ao hj
      exact ⟨o, by rw [← Array.getElem?_toList]; exact ho, hk⟩
    · cases hx
  | seq x y ihx ihy =>
    intro c s e s' k w a hk hx H E
    cases c <;> first | (cases hk; done) | skip
    rename_i c1 c2
    simp only [chkC, Bool.and_eq_true] at hk
    simp only [exec] at hx
    obtain ⟨⟨e1, s1⟩, hx1, hx⟩ := Option.bind_eq_some_iff.1 hx
    refine wp_seq (wp_mono (ihx c1 s e1 s1 k w a hk.1 hx1 H E) ?_)
    rintro e' a' w' ⟨rfl, k', hF, H', E'⟩
    cases e1 with
    | normal =>
      simp only at hx
      refine wp_mono (ihy c2 s1 e s' k' w' a' hk.2 hx H' E') ?_
      rintro e2 a2 w2 ⟨rfl, k2, hF2, H2, E2⟩
      exact ⟨rfl, k2, hF.trans hF2, H2, E2⟩
    | exit id =>
      simp only [Option.some.injEq, Prod.mk.injEq] at hx
      obtain ⟨rfl, rfl⟩ := hx
      exact ⟨rfl, k', hF, H', E'⟩
    | ret =>
      simp only [Option.some.injEq, Prod.mk.injEq] at hx
      obtain ⟨rfl, rfl⟩ := hx
      exact ⟨rfl, k', hF, H', E'⟩
  | cond o x y ihx ihy =>
    intro c s e s' k w a hk hx H E
    cases c <;> first | (cases hk; done) | skip
    rename_i o' c1 c2
    simp only [chkC, Bool.and_eq_true] at hk
    simp only [exec] at hx
    split at hx
    · rename_i t ht
      have hv := E.eval _ _ hk.1.1
      rw [ht] at hv
      refine wp_cond hv.bool_inv ?_
      cases t
      · simp only [Bool.false_eq_true, if_false] at hx ⊢
        exact ihy c2 s e s' k w a hk.2 hx H E
      · simp only [if_true] at hx ⊢
        exact ihx c1 s e s' k w a hk.1.2 hx H E
    · cases hx
  | block id x ih =>
    intro c s e s' k w a hk hx H E
    cases c <;> first | (cases hk; done) | skip
    rename_i id' c1
    simp only [chkC, Bool.and_eq_true, beq_iff_eq] at hk
    obtain ⟨rfl, hk⟩ := hk
    simp only [exec, Option.map_eq_some_iff] at hx
    obtain ⟨⟨e1, s1⟩, hx1, hx⟩ := hx
    refine wp_block (wp_mono (ih c1 s e1 s1 k w a hk hx1 H E) ?_)
    rintro e' a' w' ⟨rfl, k', hF, H', E'⟩
    cases e1 with
    | normal =>
      simp only [Prod.mk.injEq] at hx
      obtain ⟨rfl, rfl⟩ := hx
      exact ⟨rfl, k', hF, H', E'⟩
    | exit i =>
      simp only at hx
      simp only [exOf, Exit.inBlock]
      split at hx
      · rename_i hi
        simp only [Prod.mk.injEq] at hx
        obtain ⟨rfl, rfl⟩ := hx
        rw [if_pos hi]
        exact ⟨rfl, k', hF, H', E'⟩
      · rename_i hi
        simp only [Prod.mk.injEq] at hx
        obtain ⟨rfl, rfl⟩ := hx
        rw [if_neg hi]
        exact ⟨rfl, k', hF, H', E'⟩
    | ret =>
      simp only [Prod.mk.injEq] at hx
      obtain ⟨rfl, rfl⟩ := hx
      exact ⟨rfl, k', hF, H', E'⟩
  | loop x ih =>
    intro c s e s' k w a hk hx H E
    cases c <;> first | (cases hk; done) | skip
    rename_i c1
    exact hL c1 x s e s' k w a hk hx H E
  | exit id =>
    intro c s e s' k w a hk hx H E
    cases c <;> first | (cases hk; done) | skip
    simp only [chkC, beq_iff_eq] at hk
    subst hk
    simp only [exec, Option.some.injEq, Prod.mk.injEq] at hx
    obtain ⟨rfl, rfl⟩ := hx
    exact wp_exit ⟨rfl, k, Fr.refl k w, H, E⟩
  | ret =>
    intro c s e s' k w a hk hx H E
    cases c <;> first | (cases hk; done) | skip
    simp only [exec, Option.some.injEq, Prod.mk.injEq] at hx
    obtain ⟨rfl, rfl⟩ := hx
    exact wp_ret ⟨rfl, k, Fr.refl k w, H, E⟩
  | frz t x ih =>
    intro c s e s' k w a hk hx H E
    have hk' : chkC P nt c x = true := by cases c <;> exact hk
    simp only [exec] at hx
    obtain ⟨s1, h1, hx⟩ := Option.bind_eq_some_iff.1 hx
    unfold frzSt at h1
    obtain ⟨y, hy, rfl⟩ := Option.map_eq_some_iff.1 h1
    let S := used s.h deep (get s.env t)
    have hF := kill_fr k w S
    have hfr := frz_rel H S deep (get s.env t) y _ hy (fun id hid => hid) (E.2.2 t)
    have E1 : ERel nt (k.kill S) w (put s.env (some t) y) a := by
      refine ⟨E.1, E.2.1, fun t' => ?_⟩
      simp only [put, get]
      split
      · rename_i ht
        subst ht
        exact .frz hfr
      · exact (E.2.2 t').mono hF
    refine wp_mono (ih c ⟨put s.env (some t) y, kill s.h S⟩ e s' (k.kill S) w a hk' hx (kill_rel H S) E1) ?_
    rintro e' a' w' ⟨rfl, k', hF', H', E'⟩
    exact ⟨rfl, k', hF.trans hF', H', E'⟩
  | fail => intro c s e s' k w a hk hx; cases hx
def resOk (P : Program) : ResultVar → Nat × Option (Nat × Bool) → Bool
  | .tmp t, (t', none) => t == t'
  | .cell a t, (a', some q) => a == a' && decide (tySz P t = some q)
  | _, _ => false
def rvar (tmps : Array Value) : ResultVar → Sem Value
  | .tmp t => pure (tmps.getD t undef)
  | .cell a t => do loadVar t (← asAddr (tmps.getD a undef))
theorem results_eq (fn : Func) (tmps : Array Value) : results fn tmps = (do
    let vs ← fn.results.mapM (rvar tmps)
    pure (if h : vs.size = 1 then vs[0] else .tuple vs)) := by
  unfold results
  congr 2
theorem rounds_mono {c : Code} {Q Q' : Exit → Act → World → Prop} (hq : ∀ e a w, Q e a w → Q' e a w) : ∀ (m : Nat) (a : Act) (w : World), Code.rounds P c Q m a w → Code.rounds P c Q' m a w := by
  intro m
  induction m with
  | zero => intro a w h; exact h
  | succ m ih =>
    intro a w h
    refine wp_mono h fun e a2 w2 h2 => ?_
    cases e <;> first | exact ih _ _ h2 | exact hq _ _ _ h2
theorem res_run {k : Kr} {w : World} {s : St} {a : Act} (H : HRel k s.h w) (E : ERel nt k w s.env a) : ∀ (rs : List ResultVar) (qs : List (Nat × Option (Nat × Bool))) (xs : List AV), all2 (resOk P) rs qs = true → qs.mapM (res1 s) = some xs →
    ∃ vs : List Value, (rs.mapM (rvar a.tmps)).run P w = .ok vs w ∧ xs.length = vs.length ∧ ∀ (i : Nat) (x : AV), xs[i]? = some x → VRel k w x (vs.getD i undef) := by
  intro rs
  induction rs with
  | nil =>
    intro qs xs hk hx
    cases qs with
    | nil => simp at hx; subst hx; exact ⟨[], by simp, rfl, fun i x h => by simp at h⟩
    | cons => cases hk
  | cons r rs ih =>
    intro qs xs hk hx
    cases qs with
    | nil => cases hk
    | cons q qs =>
      simp only [all2, Bool.and_eq_true] at hk
      rw [List.mapM_cons] at hx
      obtain ⟨x, hx1, hx⟩ := Option.bind_eq_some_iff.1 hx
      obtain ⟨xs', hx2, hx⟩ := Option.bind_eq_some_iff.1 hx
      obtain rfl : x :: xs' = xs := by simpa using hx
      obtain ⟨vs, g1, g2, g3⟩ := ih qs xs' hk.2 hx2
      have hone : ∃ v, (rvar a.tmps r).run P w = .ok v w ∧ VRel k w x v := by
        obtain ⟨t', o⟩ := q
        cases r with
        | tmp t =>
          cases o with
          | some o => cases hk.1
          | none =>
            have ht : t = t' := by simpa [resOk] using hk.1
            subst ht
            simp only [res1, Option.some.injEq] at hx1
            subst hx1
            exact ⟨_, rfl, E.2.2 t⟩
        | cell b t =>
          cases o with
          | none => cases hk.1
          | some o =>
            obtain ⟨n, ag⟩ := o
            have hk1 := hk.1
            simp only [resOk, Bool.and_eq_true, beq_iff_eq, decide_eq_true_eq] at hk1
            obtain ⟨rfl, ht⟩ := hk1
            simp only [res1] at hx1
            have hv := E.2.2 b
            obtain ⟨v, h1, h2⟩ := load_sound H ht hv hx1
            refine ⟨v, ?_, h2⟩
            have hptr : ∃ ad, a.tmps.getD b undef = .pointer (some ad) := by
              cases hq : get s.env b with
              | ptr id v i j => rw [hq] at hv; obtain ⟨ad, h, _⟩ := hv.ptr_inv; exact ⟨ad, h⟩
              | fad y => rw [hq] at hv; obtain ⟨ad, h, _⟩ := hv.fad_inv; exact ⟨ad, h⟩
              | _ => rw [hq] at hx1; simp [loadA] at hx1
            obtain ⟨ad, hptr⟩ := hptr
            rw [hptr] at h1
            simp only [Instr.loadAt, Instr.sureAddr, Sem.run_bind, Sem.run_pure, Result.andThen_ok] at h1
            simp only [rvar, hptr, asAddr, Sem.run_bind, Sem.run_pure, Result.andThen_ok, h1]
      obtain ⟨v, h1, h2⟩ := hone
      refine ⟨v :: vs, ?_, by simp [g2], fun i y hy => ?_⟩
      · rw [List.mapM_cons]
        simp only [Sem.run_bind, h1, Result.andThen_ok, g1, Sem.run_pure]
      · cases i with
        | zero => simp at hy; subst hy; simpa using h2
        | succ i => simpa using g3 i y (by simpa using hy)
def okF (P : Program) (f : Nat) (af : AFunc) : Bool :=
  match P.funcs[f]? with
  | some fn => !(fn.name == "runtime.NumGoroutine") && (match fn.body with
      | some c => chkC P fn.ntmps c af.body
      | none => false) && decide (af.np ≤ fn.ntmps) && all2 (resOk P) fn.results.toList af.res
  | none => false
theorem get_args0 : ∀ (args : List AV) (i t : Nat), get (args0 i args) t = if i ≤ t then args.getD (t - i) .undef else .undef := by
  intro args
  induction args with
  | nil => intro i t; simp [args0, get]
  | cons x r ih =>
    intro i t
    simp only [args0, get]
    by_cases h : t = i
    · subst h; simp
    · rw [if_neg h, ih]
      by_cases h2 : i ≤ t
      · rw [if_pos h2, if_pos (by omega), show t - i = (t - (i + 1)) + 1 by omega]
        rfl
      · rw [if_neg h2, if_neg (by omega)]
theorem call_sound {F : Nat → Option AFunc} (hF : ∀ f af, F f = some af → okF P f af = true) : ∀ n, CSound P (callN F n) ∧ ∀ nt ks, ∀ (c : Code) (ac : ACode) (s : St) (e : Ex) (s' : St) (k : Kr) (w : World) (a : Act), chkC P nt c ac = true → loopN F ks n ac s = some (e, s') → HRel k s.h w → ERel nt k w s.env a → Code.rounds P c (QP nt k w e s') n a w := by
  intro n
  induction n with
  | zero => exact ⟨fun f args h r h' hx => by simp [callN] at hx, fun nt ks c ac s e s' k w a _ hx => by simp [loopN] at hx⟩
  | succ n ih =>
    obtain ⟨ihC, ihL⟩ := ih
    have hL : ∀ nt ks, LSound P nt (loopN F ks n) := fun nt ks c ac s e s' k w a hk hx H E => wp_loop_rounds n (ihL nt ks c ac s e s' k w a hk hx H E)
    constructor
    · intro f args h r h' hx
      rw [callN] at hx
      split at hx
      · cases hx
      · rename_i af haf
        split at hx
        · rename_i hlen
          have hok := hF f af haf
          unfold okF at hok
          split at hok
          · rename_i fn hfn
            simp only [Bool.and_eq_true, Bool.not_eq_true', decide_eq_true_eq] at hok
            obtain ⟨⟨⟨h1, h2⟩, h3⟩, h4⟩ := hok
            split at h2
            · rename_i c hb
              refine ⟨⟨fn, hfn, h1, by rw [hb]; rfl⟩, fun k w vargs H hp => ?_⟩
              obtain ⟨⟨e, s'⟩, hex, hx⟩ := Option.bind_eq_some_iff.1 hx
              refine calls_of_wp hfn hb ?_
              have hsz : vargs.size = args.length := hp.1.symm
              have E : ERel fn.ntmps k w (args0 0 args) { tmps := vargs ++ Array.replicate (fn.ntmps - vargs.size) undef, defers := [] } := by
                refine ⟨by simp; omega, rfl, fun t => ?_⟩
                rw [get_args0]
                simp only [Nat.zero_le, if_true, Nat.sub_zero]
                by_cases ht : t < args.length
                · have h5 := hp.2 t args[t] (List.getElem?_eq_getElem ht)
                  have e1 : args.getD t .undef = args[t] := by simp [List.getD, List.getElem?_eq_getElem ht]
                  have e2 : (vargs ++ Array.replicate (fn.ntmps - vargs.size) undef).getD t undef = vargs.getD t undef := by
                    simp only [Array.getD_eq_getD_getElem?]
                    rw [Array.getElem?_append_left (by omega)]
                  rw [e1]
                  simp only [e2]
                  exact h5
                · have e1 : args.getD t .undef = .undef := by simp [List.getD, List.getElem?_eq_none (show args.length ≤ t by omega)]
                  rw [e1]
                  exact .undef _
              refine wp_mono (exec_sound ihC (hL fn.ntmps af.ks) af.body c ⟨args0 0 args, h⟩ e s' k w _ h2 hex H E) ?_
              rintro e' a' w' ⟨rfl, k', hFr, H', E'⟩
              have hfin : resA af.res s' = some (r, h') → a'.defers = [] ∧ ∃ v, (results fn a'.tmps).run P w' = .ok v w' ∧ CPost k w r h' (.returned v) w' := by
                intro hres
                refine ⟨E'.2.1, ?_⟩
                unfold resA at hres
                have hxs : ∃ xs, af.res.mapM (res1 s') = some xs ∧ h' = s'.h ∧ ((∃ x, xs = [x] ∧ r = x) ∨ (xs.length ≠ 1 ∧ r = .tup xs)) := by
                  generalize af.res = res at hres h4 ⊢
                  split at hres
                  · rename_i t
                    obtain ⟨x, hx1, hx2⟩ := Option.map_eq_some_iff.1 hres
                    simp only [Prod.mk.injEq] at hx2
                    obtain ⟨rfl, rfl⟩ := hx2
                    exact ⟨[x], by simp [List.mapM_cons, hx1], rfl, .inl ⟨x, rfl, rfl⟩⟩
                  · rename_i ts hne
                    obtain ⟨xs, hx1, hx2⟩ := Option.map_eq_some_iff.1 hres
                    simp only [Prod.mk.injEq] at hx2
                    obtain ⟨rfl, rfl⟩ := hx2
                    refine ⟨xs, hx1, rfl, .inr ⟨fun hl => ?_, rfl⟩⟩
                    have := (mapM_some hx1).1
                    rw [hl] at this
                    obtain ⟨t, ht⟩ := List.length_eq_one_iff.1 this
                    exact hne t ht
                obtain ⟨xs, hxs, rfl, hr⟩ := hxs
                obtain ⟨vs, g1, g2, g3⟩ := res_run H' E' fn.results.toList af.res xs h4 hxs
                have hmap : (fn.results.mapM (rvar a'.tmps)).run P w' = .ok vs.toArray w' := by
                  rw [Array.mapM_eq_mapM_toList, Sem.run_map, g1]
                  rfl
                rcases hr with ⟨x, rfl, rfl⟩ | ⟨hl, rfl⟩
                · match vs, g2, g3, hmap with
                  | [v], _, g3, hmap =>
                    refine ⟨v, ?_, v, k', rfl, hFr, H', by simpa using g3 0 r rfl⟩
                    rw [results_eq, Sem.run_bind, hmap]
                    rfl
                · refine ⟨.tuple vs.toArray, ?_, .tuple vs.toArray, k', rfl, hFr, H', .tup xs _ (by simp [g2]) fun i x hx => by simpa [Array.getD_eq_getD_getElem?, List.getD_eq_getElem?_getD] using g3 i x hx⟩
                  rw [results_eq, Sem.run_bind, hmap]
                  have : ¬ vs.toArray.size = 1 := by simp; omega
                  simp only [Result.andThen_ok]
                  rw [dif_neg this]
                  rfl
              cases e with
              | normal => exact hfin hx
              | ret => exact hfin hx
              | exit id => cases hx
            · cases h2
          · cases hok
        · cases hx
    · intro nt ks c ac s e s' k w a hk hx H E
      rw [loopN] at hx
      obtain ⟨⟨e1, s1⟩, hex, hx⟩ := Option.bind_eq_some_iff.1 hx
      rw [rounds_succ]
      refine wp_mono (exec_sound ihC (hL nt ks) ac c s e1 s1 k w a hk hex H E) ?_
      rintro e' a' w' ⟨rfl, k', hFr, H', E'⟩
      cases e1 with
      | normal =>
        simp only at hx
        have := ihL nt ks c ac s1 e s' k' w' a' hk hx H' E'
        refine rounds_mono ?_ n a' w' this
        rintro e2 a2 w2 ⟨h3, k2, hF2, H2, E2⟩
        exact ⟨h3, k2, hFr.trans hF2, H2, E2⟩
      | exit id =>
        simp only [Option.some.injEq, Prod.mk.injEq] at hx
        obtain ⟨rfl, rfl⟩ := hx
        exact ⟨rfl, k', hFr, H', E'⟩
      | ret =>
        simp only [Option.some.injEq, Prod.mk.injEq] at hx
        obtain ⟨rfl, rfl⟩ := hx
        exact ⟨rfl, k', hFr, H', E'⟩
end
end Go.AM

end
section
set_option linter.unusedVariables false
set_option linter.unusedSimpArgs false
namespace Go.AM
def LeC (C C' : CR) : Prop := ∀ f a h r, C f a h = some r → C' f a h = some r
def LeL (L L' : LR) : Prop := ∀ a s r, L a s = some r → L' a s = some r
theorem callA_mono {C C' : CR} (hC : LeC C C') {raw f args h r} (H : callA C raw f args h = some r) : callA C' raw f args h = some r := by
  unfold callA at *
  split
  · rename_i hr; rw [if_pos hr] at H; exact hC _ _ _ _ H
  · rename_i hr
    rw [if_neg hr] at H
    obtain ⟨a, ha, H⟩ := Option.bind_eq_some_iff.1 H
    obtain ⟨q, hq, H⟩ := Option.bind_eq_some_iff.1 H
    rw [ha, Option.bind_some, hC _ _ _ _ hq, Option.bind_some]
    exact H
theorem callV_mono {C C' : CR} (hC : LeC C C') {f args r} (H : callV C f args = some r) : callV C' f args = some r := by
  unfold callV at *
  obtain ⟨a, ha, H⟩ := Option.bind_eq_some_iff.1 H
  obtain ⟨q, hq, H⟩ := Option.bind_eq_some_iff.1 H
  rw [ha, Option.bind_some, hC _ _ _ _ hq, Option.bind_some]
  exact H
theorem isNilR_mono {C C' : CR} (hC : LeC C C') {f args h h0} (H : isNilR h0 (C f args h) = true) : isNilR h0 (C' f args h) = true := by
  cases hq : C f args h with
  | none => rw [hq] at H; cases H
  | some q => rw [hC _ _ _ _ hq]; rw [hq] at H; exact H
theorem isEmpR_mono {C C' : CR} (hC : LeC C C') {f args h h0} (H : isEmpR h0 (C f args h) = true) : isEmpR h0 (C' f args h) = true := by
  cases hq : C f args h with
  | none => rw [hq] at H; cases H
  | some q => rw [hC _ _ _ _ hq]; rw [hq] at H; exact H
theorem cloneA_mono {C C' : CR} (hC : LeC C C') {f x h r} (H : cloneA C f x h = some r) : cloneA C' f x h = some r := by
  by_cases hx : x = .lst []
  · subst hx
    rw [cloneA_nil] at H ⊢
    split at H
    · rename_i hh
      simp only [Bool.and_eq_true] at hh
      rw [isNilR_mono hC hh.1, isEmpR_mono hC hh.2]
      exact H
    · cases H
  · rw [cloneA_ne hx] at H ⊢
    exact hC _ _ _ _ H
theorem cloneV_mono {C C' : CR} (hC : LeC C C') {f x h r} (H : cloneV C f x h = some r) : cloneV C' f x h = some r := by
  by_cases hx : x = .lst []
  · subst hx
    rw [cloneV_nil] at H ⊢
    split at H
    · rename_i hh
      simp only [Bool.and_eq_true] at hh
      rw [isNilR_mono hC hh.1, isEmpR_mono hC hh.2]
      exact H
    · cases H
  · rw [cloneV_ne hx] at H ⊢
    exact callA_mono hC H
theorem opA_mono {C C' : CR} (hC : LeC C C') {ρ h o r} (H : opA C ρ h o = some r) : opA C' ρ h o = some r := by
  cases o
  case call raw f xs => exact callA_mono hC H
  case clone f x => exact cloneA_mono hC H
  case clonev f x => exact cloneV_mono hC H
  case callp f xs =>
    simp only [opA, Option.map_eq_some_iff] at H ⊢
    obtain ⟨x, hx, rfl⟩ := H
    exact ⟨x, callV_mono hC hx, rfl⟩
  case callv raw x xs =>
    simp only [opA] at H ⊢
    split at H
    · exact callA_mono hC H
    · cases H
  all_goals exact H
theorem operA_mono {C C' : CR} (hC : LeC C C') {o env h r} (H : operA C o env h = some r) : operA C' o env h = some r := by
  unfold operA at *
  split at H
  · exact opA_mono hC H
  · split at H
    · split at H
      · rename_i hb; simp only [hb, if_true]; exact opA_mono hC H
      · rename_i hb; simp only [hb, if_false]; exact H
    · exact H
    · cases H
theorem regA_mono {C C' : CR} (hC : LeC C C') : ∀ {ops env h r}, regA C ops env h = some r → regA C' ops env h = some r := by
  intro ops
  induction ops with
  | nil => intro env h r H; exact H
  | cons o ops ih =>
    intro env h r H
    simp only [regA] at H ⊢
    obtain ⟨p, hp, H⟩ := Option.bind_eq_some_iff.1 H
    rw [operA_mono hC hp, Option.bind_some]
    exact ih H
theorem heapsA_eq {C C' : CR} (hC : LeC C C') : ∀ {ops env h r}, regA C ops env h = some r → heapsA C' ops env h = heapsA C ops env h := by
  intro ops
  induction ops with
  | nil => intro env h r H; rfl
  | cons o ops ih =>
    intro env h r H
    simp only [regA] at H
    obtain ⟨p, hp, H⟩ := Option.bind_eq_some_iff.1 H
    simp only [heapsA, operA_mono hC hp, hp, ih H]
theorem stableA_mono {C C' : CR} (hC : LeC C C') {env hs ops p} (H : stableA C env hs ops p = true) : stableA C' env hs ops p = true := by
  unfold stableA at *
  split at H
  · rename_i o h ho hh
    split at H
    · rename_i q d hq hd
      rw [operA_mono hC hq]
      simp only [hd, H]
    · cases H
  · cases H
theorem exec_mono {C C' : CR} {L L' : LR} (hC : LeC C C') (hL : LeL L L') (ks : List Nat) : ∀ (c : ACode) (s : St) r, exec C L ks c s = some r → exec C' L' ks c s = some r := by
  intro c
  induction c with
  | skip => intro s r H; exact H
  | reg ops =>
    intro s r H
    simp only [exec, Option.map_eq_some_iff] at H ⊢
    obtain ⟨p, hp, rfl⟩ := H
    exact ⟨p, regA_mono hC hp, rfl⟩
  | regd ops plan =>
    intro s r H
    simp only [exec] at H ⊢
    obtain ⟨p, hp, H⟩ := Option.bind_eq_some_iff.1 H
    rw [regA_mono hC hp, Option.bind_some, heapsA_eq hC hp]
    split at H
    · rename_i hs
      rw [if_pos ?_]
      · exact H
      · rw [List.all_eq_true] at hs ⊢
        exact fun x hx => stableA_mono hC (hs x hx)
    · cases H
  | seq a b iha ihb =>
    intro s r H
    simp only [exec] at H ⊢
    obtain ⟨p, hp, H⟩ := Option.bind_eq_some_iff.1 H
    rw [iha _ _ hp, Option.bind_some]
    obtain ⟨e, s'⟩ := p
    cases e
    · exact ihb _ _ H
    all_goals exact H
  | cond c a b iha ihb =>
    intro s r H
    simp only [exec] at H ⊢
    split at H
    · split at H
      · rename_i h; simp only [h, if_true]; exact iha _ _ H
      · rename_i h; simp only [h]; exact ihb _ _ H
    · cases H
  | block id a iha =>
    intro s r H
    simp only [exec, Option.map_eq_some_iff] at H ⊢
    obtain ⟨p, hp, rfl⟩ := H
    exact ⟨p, iha _ _ hp, rfl⟩
  | loop a iha => intro s r H; exact hL _ _ _ H
  | exit id => intro s r H; exact H
  | ret => intro s r H; exact H
  | frz t a iha =>
    intro s r H
    simp only [exec] at H ⊢
    obtain ⟨p, hp, H⟩ := Option.bind_eq_some_iff.1 H
    rw [hp, Option.bind_some]
    exact iha _ _ H
  | fail => intro s r H; exact H
theorem run_mono (F : Nat → Option AFunc) : ∀ n, LeC (callN F n) (callN F (n + 1)) ∧ ∀ ks, LeL (loopN F ks n) (loopN F ks (n + 1)) := by
  intro n
  induction n with
  | zero => exact ⟨fun f a h r H => by simp [callN] at H, fun ks a s r H => by simp [loopN] at H⟩
  | succ n ih =>
    refine ⟨fun f a h r H => ?_, fun ks a s r H => ?_⟩
    · rw [callN] at H ⊢
      split at H
      · cases H
      · rename_i af haf
        split at H
        · rename_i hn
          obtain ⟨p, hp, H⟩ := Option.bind_eq_some_iff.1 H
          simp only [hn, if_true]
          rw [exec_mono ih.1 (ih.2 _) _ _ _ _ hp, Option.bind_some]
          exact H
        · cases H
    · rw [loopN] at H ⊢
      obtain ⟨p, hp, H⟩ := Option.bind_eq_some_iff.1 H
      rw [exec_mono ih.1 (ih.2 _) _ _ _ _ hp, Option.bind_some]
      obtain ⟨e, s'⟩ := p
      cases e
      · exact ih.2 _ _ _ _ H
      all_goals exact H
theorem call_le (F : Nat → Option AFunc) {n m : Nat} (h : n ≤ m) : LeC (callN F n) (callN F m) := by
  induction h with
  | refl => exact fun _ _ _ _ H => H
  | step _ ih => exact fun f a h r H => (run_mono F _).1 _ _ _ _ (ih _ _ _ _ H)
theorem loop_le (F : Nat → Option AFunc) (ks : List Nat) {n m : Nat} (h : n ≤ m) : LeL (loopN F ks n) (loopN F ks m) := by
  induction h with
  | refl => exact fun _ _ _ H => H
  | step _ ih => exact fun a s r H => (run_mono F _).2 _ _ _ _ (ih _ _ _ H)
open Classical in
noncomputable def Lim {α : Type} (g : Nat → Option α) : Option α := if h : ∃ n, (g n).isSome then g h.choose else none
theorem Lim_some {α : Type} {g : Nat → Option α} (hm : ∀ n m, n ≤ m → ∀ r, g n = some r → g m = some r) {r : α} : Lim g = some r ↔ ∃ n, g n = some r := by
  unfold Lim
  constructor
  · intro h
    split at h
    · exact ⟨_, h⟩
    · cases h
  · rintro ⟨n, hn⟩
    have hex : ∃ n, (g n).isSome := ⟨n, by rw [hn]; rfl⟩
    rw [dif_pos hex]
    obtain ⟨q, hq⟩ := Option.isSome_iff_exists.1 hex.choose_spec
    rcases Nat.le_total n hex.choose with hl | hl
    · rw [hm _ _ hl _ hn]
    · have h1 := hm _ _ hl _ hq
      rw [hn] at h1
      rw [hq, h1]
noncomputable def CL (F : Nat → Option AFunc) : CR := fun f a h => Lim fun n => callN F n f a h
noncomputable def LL (F : Nat → Option AFunc) (ks : List Nat) : LR := fun a s => Lim fun n => loopN F ks n a s
theorem CL_some {F : Nat → Option AFunc} {f a h r} : CL F f a h = some r ↔ ∃ n, callN F n f a h = some r :=
  Lim_some fun n m hl r hr => call_le F hl _ _ _ _ hr
theorem LL_some {F : Nat → Option AFunc} {ks a s r} : LL F ks a s = some r ↔ ∃ n, loopN F ks n a s = some r :=
  Lim_some fun n m hl r hr => loop_le F ks hl _ _ _ hr
theorem CL_of {F : Nat → Option AFunc} (n : Nat) {f a h r} (H : callN F n f a h = some r) : CL F f a h = some r := CL_some.2 ⟨n, H⟩
theorem callA_lim {F : Nat → Option AFunc} {raw f args h r} (H : callA (CL F) raw f args h = some r) : ∃ n, callA (callN F n) raw f args h = some r := by
  unfold callA at *
  cases raw
  · simp only [Bool.false_eq_true, if_false] at *
    obtain ⟨a, ha, H⟩ := Option.bind_eq_some_iff.1 H
    obtain ⟨q, hq, H⟩ := Option.bind_eq_some_iff.1 H
    obtain ⟨n, hn⟩ := CL_some.1 hq
    refine ⟨n, ?_⟩
    rw [ha, Option.bind_some, hn, Option.bind_some]
    exact H
  · simp only [if_true] at *
    exact CL_some.1 H
theorem cloneA_lim {F : Nat → Option AFunc} {f x h r} (H : cloneA (CL F) f x h = some r) : ∃ n, cloneA (callN F n) f x h = some r := by
  by_cases hx : x = .lst []
  · subst hx
    rw [cloneA_nil] at H
    split at H
    · rename_i hh
      simp only [Bool.and_eq_true] at hh
      obtain ⟨q1, hq1⟩ : ∃ q, CL F f [.nil] h = some q := by
        cases hq : CL F f [.nil] h with
        | none => rw [hq] at hh; cases hh.1
        | some q => exact ⟨q, rfl⟩
      obtain ⟨q2, hq2⟩ : ∃ q, CL F f [.emp false] h = some q := by
        cases hq : CL F f [.emp false] h with
        | none => rw [hq] at hh; cases hh.2
        | some q => exact ⟨q, rfl⟩
      obtain ⟨n1, h1⟩ := CL_some.1 hq1
      obtain ⟨n2, h2⟩ := CL_some.1 hq2
      have h1' := call_le F (Nat.le_max_left n1 n2) _ _ _ _ h1
      have h2' := call_le F (Nat.le_max_right n1 n2) _ _ _ _ h2
      refine ⟨max n1 n2, ?_⟩
      rw [hq1, hq2] at hh
      rw [cloneA_nil, h1', h2', hh.1, hh.2]
      exact H
    · cases H
  · rw [cloneA_ne hx] at H
    obtain ⟨n, hn⟩ := CL_some.1 H
    exact ⟨n, by rw [cloneA_ne hx]; exact hn⟩
theorem cloneV_lim {F : Nat → Option AFunc} {f x h r} (H : cloneV (CL F) f x h = some r) : ∃ n, cloneV (callN F n) f x h = some r := by
  by_cases hx : x = .lst []
  · subst hx
    rw [cloneV_nil] at H
    split at H
    · rename_i hh
      simp only [Bool.and_eq_true] at hh
      obtain ⟨q1, hq1⟩ : ∃ q, CL F f [.nil] h = some q := by
        cases hq : CL F f [.nil] h with
        | none => rw [hq] at hh; cases hh.1
        | some q => exact ⟨q, rfl⟩
      obtain ⟨q2, hq2⟩ : ∃ q, CL F f [.emp false] h = some q := by
        cases hq : CL F f [.emp false] h with
        | none => rw [hq] at hh; cases hh.2
        | some q => exact ⟨q, rfl⟩
      obtain ⟨n1, h1⟩ := CL_some.1 hq1
      obtain ⟨n2, h2⟩ := CL_some.1 hq2
      have h1' := call_le F (Nat.le_max_left n1 n2) _ _ _ _ h1
      have h2' := call_le F (Nat.le_max_right n1 n2) _ _ _ _ h2
      refine ⟨max n1 n2, ?_⟩
      rw [hq1, hq2] at hh
      rw [cloneV_nil, h1', h2', hh.1, hh.2]
      exact H
    · cases H
  · rw [cloneV_ne hx] at H
    obtain ⟨n, hn⟩ := callA_lim H
    exact ⟨n, by rw [cloneV_ne hx]; exact hn⟩
theorem opA_lim {F : Nat → Option AFunc} {ρ h o r} (H : opA (CL F) ρ h o = some r) : ∃ n, opA (callN F n) ρ h o = some r := by
  cases o
  case call raw f xs => exact callA_lim H
  case clone f x => exact cloneA_lim H
  case clonev f x => exact cloneV_lim H
  case callp f xs =>
    simp only [opA, Option.map_eq_some_iff] at H ⊢
    obtain ⟨x, hx, rfl⟩ := H
    unfold callV at hx
    obtain ⟨a, ha, hx⟩ := Option.bind_eq_some_iff.1 hx
    obtain ⟨q, hq, hx⟩ := Option.bind_eq_some_iff.1 hx
    obtain ⟨n, hn⟩ := CL_some.1 hq
    exact ⟨n, x, by unfold callV; rw [ha, Option.bind_some, hn, Option.bind_some]; exact hx, rfl⟩
  case callv raw x xs =>
    simp only [opA] at H ⊢
    split at H
    · exact callA_lim H
    · cases H
  all_goals exact ⟨0, H⟩
theorem operA_lim {F : Nat → Option AFunc} {o env h r} (H : operA (CL F) o env h = some r) : ∃ n, operA (callN F n) o env h = some r := by
  unfold operA at *
  split at H
  · exact opA_lim H
  · split at H
    · split at H
      · rename_i hb; simp only [hb, if_true]; exact opA_lim H
      · rename_i hb; simp only [hb, if_false]; exact ⟨0, H⟩
    · exact ⟨0, H⟩
    · cases H
theorem regA_lim {F : Nat → Option AFunc} : ∀ {ops env h r}, regA (CL F) ops env h = some r → ∃ n, regA (callN F n) ops env h = some r := by
  intro ops
  induction ops with
  | nil => intro env h r H; exact ⟨0, H⟩
  | cons o ops ih =>
    intro env h r H
    simp only [regA] at H ⊢
    obtain ⟨p, hp, H⟩ := Option.bind_eq_some_iff.1 H
    obtain ⟨n, hn⟩ := operA_lim hp
    obtain ⟨m, hm⟩ := ih H
    refine ⟨max n m, ?_⟩
    rw [operA_mono (call_le F (Nat.le_max_left n m)) hn, Option.bind_some]
    exact regA_mono (call_le F (Nat.le_max_right n m)) hm
theorem LeC_lim (F : Nat → Option AFunc) (n : Nat) : LeC (callN F n) (CL F) := fun _ _ _ _ H => CL_some.2 ⟨n, H⟩
theorem exec_lim {F : Nat → Option AFunc} (ks : List Nat) : ∀ (c : ACode) (s : St) r, exec (CL F) (LL F ks) ks c s = some r → ∃ n, exec (callN F n) (loopN F ks n) ks c s = some r := by
  intro c
  have up : ∀ {n m : Nat} (hl : n ≤ m) {c s r}, exec (callN F n) (loopN F ks n) ks c s = some r → exec (callN F m) (loopN F ks m) ks c s = some r :=
    fun {n m} hl {c s r} H => exec_mono (call_le F hl) (loop_le F ks hl) ks c s r H
  induction c with
  | skip => intro s r H; exact ⟨0, H⟩
  | reg ops =>
    intro s r H
    simp only [exec, Option.map_eq_some_iff] at H ⊢
    obtain ⟨p, hp, rfl⟩ := H
    obtain ⟨n, hn⟩ := regA_lim hp
    exact ⟨n, p, hn, rfl⟩
  | regd ops plan =>
    intro s r H
    simp only [exec] at H ⊢
    obtain ⟨p, hp, H⟩ := Option.bind_eq_some_iff.1 H
    split at H
    · rename_i hs
      obtain ⟨n, hn⟩ := regA_lim hp
      have hst : ∀ x ∈ plan, ∃ n, stableA (callN F n) p.1 (s.h :: heapsA (CL F) ops s.env s.h) ops x = true := by
        intro x hx
        have h1 := List.all_eq_true.1 hs x hx
        unfold stableA at h1 ⊢
        split at h1
        · rename_i o h ho hh
          split at h1
          · rename_i q d hq hd
            obtain ⟨n, hn⟩ := operA_lim hq
            exact ⟨n, by rw [hn]; simp only [hd, h1]⟩
          · cases h1
        · cases h1
      have hall : ∀ l : List (Nat × Nat), (∀ x ∈ l, ∃ n, stableA (callN F n) p.1 (s.h :: heapsA (CL F) ops s.env s.h) ops x = true) → ∃ m, ∀ x ∈ l, stableA (callN F m) p.1 (s.h :: heapsA (CL F) ops s.env s.h) ops x = true := by
        intro l
        induction l with
        | nil => exact fun _ => ⟨0, fun x hx => by cases hx⟩
        | cons y l ih =>
          intro hl
          obtain ⟨m, hm⟩ := ih fun x hx => hl x (List.mem_cons_of_mem _ hx)
          obtain ⟨k, hk⟩ := hl y (List.mem_cons_self ..)
          refine ⟨max m k, fun x hx => ?_⟩
          rcases List.mem_cons.1 hx with rfl | hx
          · exact stableA_mono (call_le F (Nat.le_max_right m k)) hk
          · exact stableA_mono (call_le F (Nat.le_max_left m k)) (hm x hx)
      obtain ⟨m, hm⟩ := hall plan hst
      refine ⟨max n m, ?_⟩
      have hreg := regA_mono (call_le F (Nat.le_max_left n m)) hn
      rw [hreg, Option.bind_some, ← heapsA_eq (LeC_lim F _) hreg]
      rw [if_pos]
      · exact H
      · rw [List.all_eq_true]
        exact fun x hx => stableA_mono (call_le F (Nat.le_max_right n m)) (hm x hx)
    · cases H
  | seq a b iha ihb =>
    intro s r H
    simp only [exec] at H
    obtain ⟨p, hp, H⟩ := Option.bind_eq_some_iff.1 H
    obtain ⟨n, hn⟩ := iha _ _ hp
    obtain ⟨e, s'⟩ := p
    cases e
    · obtain ⟨m, hm⟩ := ihb _ _ H
      refine ⟨max n m, ?_⟩
      simp only [exec]
      rw [up (Nat.le_max_left n m) hn, Option.bind_some]
      exact up (Nat.le_max_right n m) hm
    all_goals
      refine ⟨n, ?_⟩
      simp only [exec]
      rw [hn, Option.bind_some]
      exact H
  | cond c a b iha ihb =>
    intro s r H
    simp only [exec] at H ⊢
    split at H
    · split at H
      · rename_i hc h; simp only [hc, h, if_true]; exact iha _ _ H
      · rename_i hc h; simp only [hc, h]; exact ihb _ _ H
    · cases H
  | block id a iha =>
    intro s r H
    simp only [exec, Option.map_eq_some_iff] at H ⊢
    obtain ⟨p, hp, rfl⟩ := H
    obtain ⟨n, hn⟩ := iha _ _ hp
    exact ⟨n, p, hn, rfl⟩
  | loop a iha => intro s r H; exact LL_some.1 H
  | exit id => intro s r H; exact ⟨0, H⟩
  | ret => intro s r H; exact ⟨0, H⟩
  | frz t a iha =>
    intro s r H
    simp only [exec] at H ⊢
    obtain ⟨p, hp, H⟩ := Option.bind_eq_some_iff.1 H
    obtain ⟨n, hn⟩ := iha _ _ H
    exact ⟨n, by rw [hp, Option.bind_some]; exact hn⟩
  | fail => intro s r H; cases H
theorem LL_step {F : Nat → Option AFunc} {ks : List Nat} {a : ACode} {s s' : St} {r} (h1 : exec (CL F) (LL F ks) ks a s = some (.normal, s')) (h2 : LL F ks a s' = some r) : LL F ks a s = some r := by
  obtain ⟨n, hn⟩ := exec_lim ks _ _ _ h1
  obtain ⟨m, hm⟩ := LL_some.1 h2
  refine LL_some.2 ⟨max n m + 1, ?_⟩
  rw [loopN, exec_mono (call_le F (Nat.le_max_left n m)) (loop_le F ks (Nat.le_max_left n m)) ks _ _ _ hn, Option.bind_some]
  exact loop_le F ks (Nat.le_max_right n m) _ _ _ hm
theorem LL_stop {F : Nat → Option AFunc} {ks : List Nat} {a : ACode} {s s' : St} {e : Ex} (he : e ≠ .normal) (h1 : exec (CL F) (LL F ks) ks a s = some (e, s')) : LL F ks a s = some (e, s') := by
  obtain ⟨n, hn⟩ := exec_lim ks _ _ _ h1
  refine LL_some.2 ⟨n + 1, ?_⟩
  rw [loopN, hn, Option.bind_some]
  cases e
  · exact absurd rfl he
  all_goals rfl
theorem CL_run {F : Nat → Option AFunc} {f : Nat} {af : AFunc} {args : List AV} {h : Heap} {e : Ex} {s' : St} {r : AV × Heap} (hf : F f = some af) (hn : args.length = af.np)
    (h1 : exec (CL F) (LL F af.ks) af.ks af.body ⟨args0 0 args, h⟩ = some (e, s')) (he : e = .normal ∨ e = .ret) (hr : resA af.res s' = some r) : CL F f args h = some r := by
  obtain ⟨n, hx⟩ := exec_lim af.ks _ _ _ h1
  refine CL_some.2 ⟨n + 1, ?_⟩
  rw [callN]
  simp only [hf, hn, if_true]
  rw [hx, Option.bind_some]
  rcases he with rfl | rfl <;> exact hr
def W (F : Nat → Option AFunc) (ks : List Nat) (c : ACode) (s : St) (Q : Ex → St → Prop) : Prop :=
  ∃ e s', exec (CL F) (LL F ks) ks c s = some (e, s') ∧ Q e s'
section
variable {F : Nat → Option AFunc} {ks : List Nat} {s : St} {Q : Ex → St → Prop}
theorem W_skip (h : Q .normal s) : W F ks .skip s Q := ⟨_, _, rfl, h⟩
theorem W_exit {id : Nat} (h : Q (.exit id) s) : W F ks (.exit id) s Q := ⟨_, _, rfl, h⟩
theorem W_ret (h : Q .ret s) : W F ks .ret s Q := ⟨_, _, rfl, h⟩
theorem W_reg {ops : List AOper} {p : Env × Heap} (h1 : regA (CL F) ops s.env s.h = some p) (h : Q .normal ⟨St.keep ks p.1, p.2⟩) : W F ks (.reg ops) s Q :=
  ⟨_, _, by simp only [exec, h1, Option.map_some], h⟩
theorem W_regd {ops : List AOper} {plan : List (Nat × Nat)} {p : Env × Heap} (h1 : regA (CL F) ops s.env s.h = some p) (h2 : plan.all (stableA (CL F) p.1 (s.h :: heapsA (CL F) ops s.env s.h) ops) = true)
    (h : Q .normal ⟨St.keep ks p.1, p.2⟩) : W F ks (.regd ops plan) s Q :=
  ⟨_, _, by simp only [exec, h1, Option.bind_some, h2, if_true], h⟩
theorem W_seq {a b : ACode} (h : W F ks a s fun e s' => match e with | .normal => W F ks b s' Q | e => Q e s') : W F ks (.seq a b) s Q := by
  obtain ⟨e, s', h1, h2⟩ := h
  cases e
  · obtain ⟨e2, s2, h3, h4⟩ := h2
    exact ⟨e2, s2, by simp only [exec, h1, Option.bind_some]; exact h3, h4⟩
  all_goals exact ⟨_, s', by simp only [exec, h1, Option.bind_some], h2⟩
theorem W_cond {c : Opd} {a b : ACode} {t : Bool} (hc : ev s.env c = .bool t) (h1 : t = true → W F ks a s Q) (h2 : t = false → W F ks b s Q) : W F ks (.cond c a b) s Q := by
  cases t
  · obtain ⟨e, s', h3, h4⟩ := h2 rfl
    exact ⟨e, s', by simp only [exec, hc]; exact h3, h4⟩
  · obtain ⟨e, s', h3, h4⟩ := h1 rfl
    exact ⟨e, s', by simp only [exec, hc]; exact h3, h4⟩
theorem W_block {id : Nat} {a : ACode} (h : W F ks a s fun e s' => match e with | .exit i => if i = id then Q .normal s' else Q (.exit i) s' | e => Q e s') : W F ks (.block id a) s Q := by
  obtain ⟨e, s', h1, h2⟩ := h
  cases e
  case exit i =>
    by_cases hi : i = id
    · exact ⟨.normal, s', by simp [exec, h1, hi], by simpa [hi] using h2⟩
    · exact ⟨.exit i, s', by simp [exec, h1, hi], by simpa [hi] using h2⟩
  all_goals exact ⟨_, s', by simp only [exec, h1, Option.map_some], h2⟩
theorem W_frz {t : Nat} {a : ACode} {s' : St} (h1 : frzSt t s = some s') (h : W F ks a s' Q) : W F ks (.frz t a) s Q := by
  obtain ⟨e, s2, h3, h4⟩ := h
  exact ⟨e, s2, by simp only [exec, h1, Option.bind_some]; exact h3, h4⟩
theorem W_mono {a : ACode} {Q' : Ex → St → Prop} (h : W F ks a s Q) (hq : ∀ e s, Q e s → Q' e s) : W F ks a s Q' :=
  let ⟨e, s', h1, h2⟩ := h; ⟨e, s', h1, hq _ _ h2⟩
theorem W_round {a : ACode} (h : W F ks a s fun e s' => match e with | .normal => W F ks (.loop a) s' Q | e => Q e s') : W F ks (.loop a) s Q := by
  obtain ⟨e, s', h1, h2⟩ := h
  cases e
  · obtain ⟨e2, s2, h3, h4⟩ := h2
    exact ⟨e2, s2, LL_step h1 h3, h4⟩
  all_goals exact ⟨_, s', LL_stop (by simp) h1, h2⟩
end
end Go.AM

end
section
set_option linter.unusedVariables false
set_option linter.unusedSimpArgs false
namespace Go.AM
def onS {α : Type} (o : Option α) (p : α → Prop) : Prop := match o with | some a => p a | none => False
theorem onS_some {α : Type} {o : Option α} {p : α → Prop} : onS o p ↔ ∃ a, o = some a ∧ p a := by
  cases o <;> simp [onS]
inductive Kt where
  | done
  | seq (b : ACode) (k : Kt)
  | blk (id : Nat) (k : Kt)
section
variable (F : Nat → Option AFunc) (ks : List Nat) (Q : Ex → St → Prop)
def Y : Kt → Ex → St → Prop
  | .done, e, s => Q e s
  | .seq b k, .normal, s => W F ks b s (Y k)
  | .seq _ k, e, s => Y k e s
  | .blk id k, .exit i, s => if i = id then Y k .normal s else Y k (.exit i) s
  | .blk _ k, e, s => Y k e s
def X (a : ACode) (s : St) (k : Kt) : Prop := W F ks a s (Y F ks Q k)
def Z (o : Option (Env × Heap)) (k : Kt) : Prop := match o with | some p => Y F ks Q k .normal ⟨St.keep ks p.1, p.2⟩ | none => False
def B (v : AV) (a b : ACode) (s : St) (k : Kt) : Prop := match v with | .bool t => (t = true → X F ks Q a s k) ∧ (t = false → X F ks Q b s k) | _ => False
def V (o : Option St) (a : ACode) (k : Kt) : Prop := match o with | some s => X F ks Q a s k | none => False
def Zd (o : Option (Env × Heap)) (ops : List AOper) (plan : List (Nat × Nat)) (s : St) (k : Kt) : Prop := match o with
  | some p => plan.all (stableA (CL F) p.1 (s.h :: heapsA (CL F) ops s.env s.h) ops) = true ∧ Y F ks Q k .normal ⟨St.keep ks p.1, p.2⟩
  | none => False
end
section
variable {F : Nat → Option AFunc} {ks : List Nat} {Q : Ex → St → Prop} {s : St} {k : Kt}
theorem X_skip : X F ks Q .skip s k ↔ Y F ks Q k .normal s := ⟨fun ⟨e, s', h1, h2⟩ => by simp only [exec, Option.some.injEq, Prod.mk.injEq] at h1; obtain ⟨rfl, rfl⟩ := h1; exact h2, W_skip⟩
theorem X_exit {id : Nat} : X F ks Q (.exit id) s k ↔ Y F ks Q k (.exit id) s := ⟨fun ⟨e, s', h1, h2⟩ => by simp only [exec, Option.some.injEq, Prod.mk.injEq] at h1; obtain ⟨rfl, rfl⟩ := h1; exact h2, W_exit⟩
theorem X_ret : X F ks Q .ret s k ↔ Y F ks Q k .ret s := ⟨fun ⟨e, s', h1, h2⟩ => by simp only [exec, Option.some.injEq, Prod.mk.injEq] at h1; obtain ⟨rfl, rfl⟩ := h1; exact h2, W_ret⟩
theorem X_reg {ops : List AOper} : X F ks Q (.reg ops) s k ↔ Z F ks Q (regA (CL F) ops s.env s.h) k := by
  constructor
  · rintro ⟨e, s', h1, h2⟩
    simp only [exec, Option.map_eq_some_iff, Prod.mk.injEq] at h1
    obtain ⟨p, hp, rfl, rfl⟩ := h1
    rw [hp]
    exact h2
  · intro h
    unfold Z at h
    split at h
    · rename_i p hp; exact W_reg hp h
    · exact h.elim
theorem X_regd {ops : List AOper} {plan : List (Nat × Nat)} : X F ks Q (.regd ops plan) s k ↔ Zd F ks Q (regA (CL F) ops s.env s.h) ops plan s k := by
  constructor
  · rintro ⟨e, s', h1, h2⟩
    simp only [exec] at h1
    obtain ⟨p, hp, h1⟩ := Option.bind_eq_some_iff.1 h1
    split at h1
    · rename_i hs
      simp only [Option.some.injEq, Prod.mk.injEq] at h1
      obtain ⟨rfl, rfl⟩ := h1
      rw [hp]
      exact ⟨hs, h2⟩
    · cases h1
  · intro h
    unfold Zd at h
    split at h
    · rename_i p hp; exact W_regd hp h.1 h.2
    · exact h.elim
theorem X_seq {a b : ACode} : X F ks Q (.seq a b) s k ↔ X F ks Q a s (.seq b k) := by
  constructor
  · rintro ⟨e, s', h1, h2⟩
    simp only [exec] at h1
    obtain ⟨⟨e1, s1⟩, hp, h1⟩ := Option.bind_eq_some_iff.1 h1
    refine ⟨e1, s1, hp, ?_⟩
    cases e1
    · exact ⟨e, s', h1, h2⟩
    all_goals
      simp only [Option.some.injEq, Prod.mk.injEq] at h1
      obtain ⟨rfl, rfl⟩ := h1
      exact h2
  · rintro ⟨e, s', h1, h2⟩
    refine W_seq ⟨e, s', h1, ?_⟩
    cases e
    · exact h2
    all_goals exact h2
theorem X_cond {c : Opd} {a b : ACode} : X F ks Q (.cond c a b) s k ↔ B F ks Q (ev s.env c) a b s k := by
  constructor
  · rintro ⟨e, s', h1, h2⟩
    simp only [exec] at h1
    split at h1
    · rename_i t ht
      rw [ht]
      cases t
      · exact ⟨fun h => (by cases h), fun _ => ⟨e, s', h1, h2⟩⟩
      · exact ⟨fun _ => ⟨e, s', h1, h2⟩, fun h => (by cases h)⟩
    · cases h1
  · intro h
    unfold B at h
    split at h
    · rename_i t ht
      exact W_cond ht h.1 h.2
    · exact h.elim
theorem X_block {id : Nat} {a : ACode} : X F ks Q (.block id a) s k ↔ X F ks Q a s (.blk id k) := by
  constructor
  · rintro ⟨e, s', h1, h2⟩
    simp only [exec, Option.map_eq_some_iff] at h1
    obtain ⟨⟨e1, s1⟩, hp, h1⟩ := h1
    refine ⟨e1, s1, hp, ?_⟩
    cases e1 with
    | exit i =>
      simp only at h1
      simp only [Y]
      split at h1
      · rename_i hi
        simp only [Prod.mk.injEq] at h1
        obtain ⟨rfl, rfl⟩ := h1
        rw [if_pos hi]; exact h2
      · rename_i hi
        simp only [Prod.mk.injEq] at h1
        obtain ⟨rfl, rfl⟩ := h1
        rw [if_neg hi]; exact h2
    | _ =>
      simp only [Prod.mk.injEq] at h1
      obtain ⟨rfl, rfl⟩ := h1
      exact h2
  · rintro ⟨e, s', h1, h2⟩
    refine W_block ⟨e, s', h1, ?_⟩
    cases e
    all_goals exact h2
theorem X_frz {t : Nat} {a : ACode} : X F ks Q (.frz t a) s k ↔ V F ks Q (frzSt t s) a k := by
  constructor
  · rintro ⟨e, s', h1, h2⟩
    simp only [exec] at h1
    obtain ⟨s1, hp, h1⟩ := Option.bind_eq_some_iff.1 h1
    rw [hp]
    exact ⟨e, s', h1, h2⟩
  · intro h
    unfold V at h
    split at h
    · rename_i s1 hs; exact W_frz hs h
    · exact h.elim
theorem X_round {a : ACode} (h : X F ks Q a s (.seq (.loop a) k)) : X F ks Q (.loop a) s k := by
  refine W_round (W_mono h fun e s' he => ?_)
  cases e <;> exact he
theorem X_fuel3 {σ ρ : Type} {a : ACode} {L : Nat → σ → Option ρ} {S : σ → St → Prop} {r : ρ} (h0 : ∀ x, L 0 x = none) (N : Nat)
    (step : ∀ n, n < N → ∀ x s, L (n + 1) x = some r → S x s → (∀ m, m ≤ n → ∀ y s', L m y = some r → S y s' → X F ks Q (.loop a) s' k) → X F ks Q a s (.seq (.loop a) k)) :
    ∀ n, n ≤ N → ∀ x s, L n x = some r → S x s → X F ks Q (.loop a) s k := by
  intro n
  induction n using Nat.strongRecOn with
  | _ n ih =>
    intro hn x s h hs
    cases n with
    | zero => rw [h0] at h; cases h
    | succ n => exact X_round (step n (by omega) x s h hs fun m hm y s' h' hs' => ih m (by omega) (by omega) y s' h' hs')
theorem Y_done {e : Ex} : Y F ks Q .done e s = Q e s := rfl
theorem Y_seq {b : ACode} : Y F ks Q (.seq b k) .normal s = X F ks Q b s k := rfl
theorem Y_seq_exit {b : ACode} {i : Nat} : Y F ks Q (.seq b k) (.exit i) s = Y F ks Q k (.exit i) s := rfl
theorem Y_seq_ret {b : ACode} : Y F ks Q (.seq b k) .ret s = Y F ks Q k .ret s := rfl
theorem Y_blk {id : Nat} : Y F ks Q (.blk id k) .normal s = Y F ks Q k .normal s := rfl
theorem Y_blk_exit {id i : Nat} : Y F ks Q (.blk id k) (.exit i) s = if i = id then Y F ks Q k .normal s else Y F ks Q k (.exit i) s := rfl
theorem Y_blk_ret {id : Nat} : Y F ks Q (.blk id k) .ret s = Y F ks Q k .ret s := rfl
theorem Z_some {env : Env} {h : Heap} : Z F ks Q (some (env, h)) k = Y F ks Q k .normal ⟨St.keep ks env, h⟩ := rfl
theorem V_some {a : ACode} {s' : St} : V F ks Q (some s') a k = X F ks Q a s' k := rfl
theorem B_true {a b : ACode} : B F ks Q (.bool true) a b s k = X F ks Q a s k := by simp [B]
theorem B_false {a b : ACode} : B F ks Q (.bool false) a b s k = X F ks Q b s k := by simp [B]
end
theorem regA_nil {C : CR} {env : Env} {h : Heap} : regA C [] env h = some (env, h) := rfl
def regK (C : CR) (o : Option (AV × Heap)) (d : Option Nat) (r : List AOper) (env : Env) : Option (Env × Heap) := match o with | some p => regA C r (put env d p.1) p.2 | none => none
theorem regA_cons {C : CR} {d : Option Nat} {op : AOp} {g : Option (Nat × Bool)} {r : List AOper} {env : Env} {h : Heap} : regA C (⟨d, op, g⟩ :: r) env h = regK C (operA C ⟨d, op, g⟩ env h) d r env := by
  simp only [regA, regK]
  cases operA C ⟨d, op, g⟩ env h <;> rfl
theorem regK_some {C : CR} {v : AV} {h : Heap} {d : Option Nat} {r : List AOper} {env : Env} : regK C (some (v, h)) d r env = regA C r (put env d v) h := rfl
theorem operA_none {C : CR} {d : Option Nat} {op : AOp} {env : Env} {h : Heap} : operA C ⟨d, op, none⟩ env h = opA C (ev env) h op := rfl
def gd (C : CR) (v : AV) (w : Bool) (h : Heap) (env : Env) (op : AOp) : Option (AV × Heap) := match v with | .bool b => if b = w then opA C (ev env) h op else some (.tup [], h) | .tup [] => some (.tup [], h) | _ => none
theorem gd_sk {C w h env op} : gd C (.tup []) w h env op = some (.tup [], h) := rfl
theorem gd_tt {C h env op} : gd C (.bool true) true h env op = opA C (ev env) h op := rfl
theorem gd_ff {C h env op} : gd C (.bool false) false h env op = opA C (ev env) h op := rfl
theorem gd_tf {C h env op} : gd C (.bool true) false h env op = some (.tup [], h) := rfl
theorem gd_ft {C h env op} : gd C (.bool false) true h env op = some (.tup [], h) := rfl
theorem operA_some {C : CR} {d : Option Nat} {op : AOp} {t : Nat} {w : Bool} {env : Env} {h : Heap} : operA C ⟨d, op, some (t, w)⟩ env h = gd C (get env t) w h env op := rfl
theorem put_some {env : Env} {d : Nat} {v : AV} : put env (some d) v = (d, v) :: env := rfl
theorem put_none {env : Env} {v : AV} : put env none v = env := rfl
theorem keep_nil {env : Env} : St.keep [] env = [] := rfl
theorem keep_cons {env : Env} {t : Nat} {ks : List Nat} : St.keep (t :: ks) env = (t, get env t) :: St.keep ks env := rfl
theorem ev_t {env : Env} {n : Nat} : ev env (.t n) = get env n := rfl
theorem ev_c {env : Env} {v : AV} : ev env (.c v) = v := rfl
theorem ev_f {env : Env} {g : Nat} : ev env (.f g) = .fn g [] [] := rfl
theorem get_cons {d t : Nat} {v : AV} {r : Env} : get ((d, v) :: r) t = if t = d then v else get r t := rfl
theorem get_nil {t : Nat} : get [] t = .undef := rfl
theorem bind_some' {α β : Type} (a : α) (f : α → Option β) : (some a).bind f = f a := rfl
theorem map_some' {α β : Type} (a : α) (f : α → β) : (some a).map f = some (f a) := rfl
theorem args0_nil {i : Nat} : args0 i [] = [] := rfl
theorem args0_cons {i : Nat} {x : AV} {r : List AV} : args0 i (x :: r) = (i, x) :: args0 (i + 1) r := rfl
def CP (C : CR) (f : Nat) (args : List AV) : Option AV := (C f args []).bind fun r => frz r.2 deep r.1
def uses (h : Heap) (args : List AV) : List Nat := args.flatMap (used h deep)
def fzs (h : Heap) (args : List AV) : Option (List AV) := args.mapM (frz h deep)
def fz (h : Heap) (x : AV) : Option AV := frz h deep x
def cpB (h : Heap) (ids : List Nat) (o : Option AV) : Option (AV × Heap) := match o with | some x => some (x, kill h ids) | none => none
def cpA (C : CR) (f : Nat) (h : Heap) (ids : List Nat) (o : Option (List AV)) : Option (AV × Heap) := match o with | some xs => cpB h ids (CP C f xs) | none => none
theorem callA_pure {C : CR} {f : Nat} {args : List AV} {h : Heap} : callA C false f args h = cpA C f h (uses h args) (fzs h args) := by
  unfold callA cpA cpB CP fzs uses
  simp only [Bool.false_eq_true, if_false]
  cases args.mapM (frz h deep) with
  | none => rfl
  | some a =>
    simp only [Option.bind_some]
    cases C f a [] with
    | none => rfl
    | some r =>
      simp only [Option.bind_some]
      cases frz r.2 deep r.1 <;> rfl
theorem cpA_some {C : CR} {f : Nat} {h : Heap} {ids : List Nat} {xs : List AV} : cpA C f h ids (some xs) = cpB h ids (CP C f xs) := rfl
theorem cpB_some {h : Heap} {ids : List Nat} {x : AV} : cpB h ids (some x) = some (x, kill h ids) := rfl
theorem callA_raw {C : CR} {f : Nat} {args : List AV} {h : Heap} : callA C true f args h = C f args h := rfl
theorem fzs_nil {h : Heap} : fzs h [] = some [] := rfl
def fzK (o : Option AV) (p : Option (List AV)) : Option (List AV) := match o, p with | some y, some ys => some (y :: ys) | _, _ => none
theorem fzK_some {y : AV} {ys : List AV} : fzK (some y) (some ys) = some (y :: ys) := rfl
theorem fzs_cons {h : Heap} {x : AV} {xs : List AV} : fzs h (x :: xs) = fzK (fz h x) (fzs h xs) := by
  unfold fzs fzK fz
  rw [List.mapM_cons]
  cases frz h deep x <;> simp <;> (try (cases xs.mapM (frz h deep) <;> rfl))
theorem uses_nil {h : Heap} : uses h [] = [] := rfl
theorem uses_cons {h : Heap} {x : AV} {xs : List AV} : uses h (x :: xs) = used h deep x ++ uses h xs := rfl
theorem kill_nil {h : Heap} : kill h [] = h := rfl
theorem kill_cons {h : Heap} {i : Nat} {r : List Nat} : kill h (i :: r) = kill (h.set i none) r := rfl
theorem fz_int {h k n} : fz h (.int k n) = some (.int k n) := rfl
theorem fz_bool {h b} : fz h (.bool b) = some (.bool b) := rfl
theorem fz_str {h b} : fz h (.str b) = some (.str b) := rfl
theorem fz_lst {h xs} : fz h (.lst xs) = some (.lst xs) := rfl
theorem fz_nil {h} : fz h .nil = some (.lst []) := rfl
theorem fz_emp {h c} : fz h (.emp c) = some (.lst []) := rfl
theorem fz_undef {h} : fz h .undef = some .undef := rfl
theorem fz_nilp {h} : fz h .nilp = some .nilp := rfl
theorem us_int {h k n} : used h deep (.int k n) = [] := rfl
theorem us_bool {h b} : used h deep (.bool b) = [] := rfl
theorem us_str {h b} : used h deep (.str b) = [] := rfl
theorem us_lst {h xs} : used h deep (.lst xs) = [] := rfl
theorem us_nil {h} : used h deep .nil = [] := rfl
theorem us_emp {h c} : used h deep (.emp c) = [] := rfl
theorem us_undef {h} : used h deep .undef = [] := rfl
theorem us_nilp {h} : used h deep .nilp = [] := rfl
def plainV : AV → Bool
  | .int _ _ => true
  | .bool _ => true
  | .str _ => true
  | .lst _ => true
  | _ => false
def plain1 : AV → Bool
  | .agg xs => xs.all plainV
  | x => plainV x
theorem frz_plain {h : Heap} {n : Nat} : ∀ {x : AV}, plainV x = true → frz h (n + 1) x = some x ∧ used h (n + 1) x = [] := by
  intro x hx
  cases x <;> first | exact ⟨rfl, rfl⟩ | cases hx
theorem mapM_plain {f : AV → Option AV} : ∀ {xs : List AV}, (∀ x ∈ xs, f x = some x) → xs.mapM f = some xs := by
  intro xs
  induction xs with
  | nil => intro _; rfl
  | cons x xs ih =>
    intro h
    rw [List.mapM_cons, h x (List.mem_cons_self ..), ih fun y hy => h y (List.mem_cons_of_mem _ hy)]
    rfl
theorem flatMap_plain {f : AV → List Nat} {xs : List AV} (h : ∀ x ∈ xs, f x = []) : xs.flatMap f = [] := by
  rw [List.flatMap_eq_nil_iff]; exact h
theorem frz_plain1 {h : Heap} {n : Nat} {x : AV} (hx : plain1 x = true) : frz h (n + 2) x = some x ∧ used h (n + 2) x = [] := by
  cases x with
  | agg xs =>
    have hx' := List.all_eq_true.1 hx
    refine ⟨?_, ?_⟩
    · simp only [frz]
      rw [mapM_plain fun y hy => (frz_plain (hx' y hy)).1]
      rfl
    · simp only [used]
      exact flatMap_plain fun y hy => (frz_plain (hx' y hy)).2
  | _ => exact frz_plain hx
theorem fz_plain1 {h : Heap} {x : AV} (hx : plain1 x = true) : fz h x = some x := (frz_plain1 (n := 5) hx).1
theorem us_plain1 {h : Heap} {x : AV} (hx : plain1 x = true) : used h deep x = [] := (frz_plain1 (n := 5) hx).2
theorem all_map_plain {α : Type} {f : α → AV} {l : List α} (h : ∀ x, plain1 (f x) = true) : (l.map f).all plain1 = true := by
  rw [List.all_eq_true]
  intro y hy
  obtain ⟨x, _, rfl⟩ := List.mem_map.1 hy
  exact h x
theorem okS_map {α : Type} {f : α → AV} {s : Nat} {l : List α} (h : ∀ x, okE s (f x) = true) : okS s (l.map f) = true := by
  unfold okS
  rw [List.all_eq_true]
  intro y hy
  obtain ⟨x, _, rfl⟩ := List.mem_map.1 hy
  exact h x
theorem CP_of {C : CR} {f : Nat} {args : List AV} {r : AV × Heap} {x : AV} (h1 : C f args [] = some r) (h2 : fz r.2 r.1 = some x) : CP C f args = some x := by
  unfold CP
  rw [h1]
  exact h2
def fy (h : Heap) (x : AV) : Option AV := frz h 6 x
def fys (h : Heap) (xs : List AV) : Option (List AV) := xs.mapM (fy h)
def tupK (o : Option (List AV)) : Option AV := match o with | some xs => some (.tup xs) | none => none
def aggK (o : Option (List AV)) : Option AV := match o with | some xs => some (.agg xs) | none => none
theorem tupK_some {xs : List AV} : tupK (some xs) = some (.tup xs) := rfl
theorem aggK_some {xs : List AV} : aggK (some xs) = some (.agg xs) := rfl
theorem fz_tup {h : Heap} {xs : List AV} : fz h (.tup xs) = tupK (fys h xs) := by
  show (xs.mapM (frz h 6)).map AV.tup = _
  unfold tupK fys fy
  cases xs.mapM (frz h 6) <;> rfl
theorem fz_agg {h : Heap} {xs : List AV} : fz h (.agg xs) = aggK (fys h xs) := by
  show (xs.mapM (frz h 6)).map AV.agg = _
  unfold aggK fys fy
  cases xs.mapM (frz h 6) <;> rfl
theorem fys_nil {h : Heap} : fys h [] = some [] := rfl
theorem fys_cons {h : Heap} {x : AV} {xs : List AV} : fys h (x :: xs) = fzK (fy h x) (fys h xs) := by
  unfold fys fzK fy
  rw [List.mapM_cons]
  cases frz h 6 x <;> simp <;> (try (cases xs.mapM (frz h 6) <;> rfl))
theorem fy_int {h k n} : fy h (.int k n) = some (.int k n) := rfl
theorem fy_bool {h b} : fy h (.bool b) = some (.bool b) := rfl
theorem fy_str {h b} : fy h (.str b) = some (.str b) := rfl
theorem fy_lst {h xs} : fy h (.lst xs) = some (.lst xs) := rfl
theorem fy_nil {h} : fy h .nil = some (.lst []) := rfl
theorem fy_emp {h c} : fy h (.emp c) = some (.lst []) := rfl
theorem fy_undef {h} : fy h .undef = some .undef := rfl
theorem fy_nilp {h} : fy h .nilp = some .nilp := rfl
def fv (h : Heap) (x : AV) : Option AV := frz h 5 x
def fvs (h : Heap) (xs : List AV) : Option (List AV) := xs.mapM (fv h)
theorem fy_agg {h : Heap} {xs : List AV} : fy h (.agg xs) = aggK (fvs h xs) := by
  show (xs.mapM (frz h 5)).map AV.agg = _
  unfold aggK fvs fv
  cases xs.mapM (frz h 5) <;> rfl
theorem fvs_nil {h : Heap} : fvs h [] = some [] := rfl
theorem fvs_cons {h : Heap} {x : AV} {xs : List AV} : fvs h (x :: xs) = fzK (fv h x) (fvs h xs) := by
  unfold fvs fzK fv
  rw [List.mapM_cons]
  cases frz h 5 x <;> simp <;> (try (cases xs.mapM (frz h 5) <;> rfl))
theorem fv_int {h k n} : fv h (.int k n) = some (.int k n) := rfl
theorem fv_bool {h b} : fv h (.bool b) = some (.bool b) := rfl
theorem fv_lst {h xs} : fv h (.lst xs) = some (.lst xs) := rfl
theorem fv_nil {h} : fv h .nil = some (.lst []) := rfl
theorem fv_emp {h c} : fv h (.emp c) = some (.lst []) := rfl
def uys (h : Heap) (xs : List AV) : List Nat := xs.flatMap (used h 6)
theorem us_agg {h : Heap} {xs : List AV} : used h deep (.agg xs) = uys h xs := rfl
theorem us_tup {h : Heap} {xs : List AV} : used h deep (.tup xs) = uys h xs := rfl
theorem uys_nil {h : Heap} : uys h [] = [] := rfl
theorem uys_cons {h : Heap} {x : AV} {xs : List AV} : uys h (x :: xs) = used h 6 x ++ uys h xs := rfl
theorem uy_int {h k n} : used h 6 (.int k n) = [] := rfl
theorem uy_bool {h b} : used h 6 (.bool b) = [] := rfl
theorem uy_lst {h xs} : used h 6 (.lst xs) = [] := rfl
theorem uy_nil {h} : used h 6 .nil = [] := rfl
theorem uy_emp {h c} : used h 6 (.emp c) = [] := rfl
theorem uy_undef {h} : used h 6 .undef = [] := rfl
def uvs (h : Heap) (xs : List AV) : List Nat := xs.flatMap (used h 5)
theorem uy_agg {h : Heap} {xs : List AV} : used h 6 (.agg xs) = uvs h xs := rfl
theorem uvs_nil {h : Heap} : uvs h [] = [] := rfl
theorem uvs_cons {h : Heap} {x : AV} {xs : List AV} : uvs h (x :: xs) = used h 5 x ++ uvs h xs := rfl
theorem uv_int {h k n} : used h 5 (.int k n) = [] := rfl
theorem uv_bool {h b} : used h 5 (.bool b) = [] := rfl
theorem uv_lst {h xs} : used h 5 (.lst xs) = [] := rfl
theorem uv_nil {h} : used h 5 .nil = [] := rfl
theorem uv_emp {h c} : used h 5 (.emp c) = [] := rfl
def u (l : List Int) : List AV := l.map (.int .u64)
theorem u_len (l : List Int) : (u l).length = l.length := by simp [u]
theorem u_app (l r : List Int) : u l ++ u r = u (l ++ r) := by simp [u]
theorem u_set (l : List Int) (i : Nat) (y : Int) : (u l).set i (.int .u64 y) = u (l.set i y) := by simp [u]
theorem u_rep (n : Nat) (y : Int) : List.replicate n (AV.int .u64 y) = u (List.replicate n y) := by simp [u]
theorem u_nil : u [] = [] := rfl
theorem u_sub (l : List Int) (o n : Nat) : sub (u l) o n = u ((l.drop o).take n) := by simp [u, sub]
theorem u_okS (l : List Int) : okS 1 (u l) = true := by
  unfold okS u
  rw [List.all_eq_true]
  intro y hy
  obtain ⟨x, _, rfl⟩ := List.mem_map.1 hy
  rfl
theorem u_plain (l : List Int) : (u l).all plain1 = true := by
  rw [List.all_eq_true]
  intro y hy
  obtain ⟨x, _, rfl⟩ := List.mem_map.1 hy
  rfl
def ui (l : List Int) : List AV := l.map (.int .i64)
theorem ui_len (l : List Int) : (ui l).length = l.length := by simp [ui]
theorem ui_app (l r : List Int) : ui l ++ ui r = ui (l ++ r) := by simp [ui]
theorem ui_set (l : List Int) (i : Nat) (y : Int) : (ui l).set i (.int .i64 y) = ui (l.set i y) := by simp [ui]
theorem ui_rep (n : Nat) (y : Int) : List.replicate n (AV.int .i64 y) = ui (List.replicate n y) := by simp [ui]
theorem ui_nil : ui [] = [] := rfl
theorem ui_sub (l : List Int) (o n : Nat) : sub (ui l) o n = ui ((l.drop o).take n) := by simp [ui, sub]
theorem ui_okS (l : List Int) : okS 1 (ui l) = true := by
  unfold okS ui
  rw [List.all_eq_true]
  intro y hy
  obtain ⟨x, _, rfl⟩ := List.mem_map.1 hy
  rfl
theorem ui_plain (l : List Int) : (ui l).all plain1 = true := by
  rw [List.all_eq_true]
  intro y hy
  obtain ⟨x, _, rfl⟩ := List.mem_map.1 hy
  rfl
def fzR (f : AV → Option AV) (o : Option (Option Blk)) (v off len : Nat) : Option AV := match o with
  | some (some b) => if b.v = v then ((sub b.xs off len).mapM f).map .lst else none
  | _ => none
theorem fz_ref' {h : Heap} {id v s off len : Nat} : fz h (.ref id v s off len) = fzR (frz h 6) (h[id]?) v off len := by
  show (blk h id v).bind _ = _
  unfold fzR blk
  cases h[id]? with
  | none => rfl
  | some o => cases o with
    | none => rfl
    | some b => by_cases hv : b.v = v <;> simp [hv]
theorem fy_ref' {h : Heap} {id v s off len : Nat} : fy h (.ref id v s off len) = fzR (frz h 5) (h[id]?) v off len := by
  show (blk h id v).bind _ = _
  unfold fzR blk
  cases h[id]? with
  | none => rfl
  | some o => cases o with
    | none => rfl
    | some b => by_cases hv : b.v = v <;> simp [hv]
theorem fv_ref' {h : Heap} {id v s off len : Nat} : fv h (.ref id v s off len) = fzR (frz h 4) (h[id]?) v off len := by
  show (blk h id v).bind _ = _
  unfold fzR blk
  cases h[id]? with
  | none => rfl
  | some o => cases o with
    | none => rfl
    | some b => by_cases hv : b.v = v <;> simp [hv]
theorem fzR_p {h : Heap} {n : Nat} {v s off len : Nat} {xs : List AV} (hp : xs.all plain1 = true) : fzR (frz h (n + 2)) (some (some ⟨v, s, xs⟩)) v off len = some (.lst (sub xs off len)) := by
  have hp' := List.all_eq_true.1 hp
  simp only [fzR, if_true]
  rw [mapM_plain (xs := sub xs off len) (f := frz h (n + 2)) fun y hy => (frz_plain1 (n := n) (hp' y (List.mem_of_mem_drop (List.mem_of_mem_take hy)))).1]
  rfl
theorem fzR_u6 {h : Heap} {v s off len : Nat} {l : List Int} : fzR (frz h 6) (some (some ⟨v, s, u l⟩)) v off len = some (.lst (sub (u l) off len)) := fzR_p (n := 4) (u_plain l)
theorem fzR_u5 {h : Heap} {v s off len : Nat} {l : List Int} : fzR (frz h 5) (some (some ⟨v, s, u l⟩)) v off len = some (.lst (sub (u l) off len)) := fzR_p (n := 3) (u_plain l)
theorem fzR_u4 {h : Heap} {v s off len : Nat} {l : List Int} : fzR (frz h 4) (some (some ⟨v, s, u l⟩)) v off len = some (.lst (sub (u l) off len)) := fzR_p (n := 2) (u_plain l)
def usR (f : AV → List Nat) (o : Option (Option Blk)) (id v off len : Nat) : List Nat := id :: match o with
  | some (some b) => if b.v = v then (sub b.xs off len).flatMap f else []
  | _ => []
theorem us_ref' {h : Heap} {id v s off len : Nat} : used h deep (.ref id v s off len) = usR (used h 6) (h[id]?) id v off len := by
  show id :: _ = _
  unfold usR blk
  cases h[id]? with
  | none => rfl
  | some o => cases o with
    | none => rfl
    | some b => by_cases hv : b.v = v <;> simp [hv]
theorem uy_ref' {h : Heap} {id v s off len : Nat} : used h 6 (.ref id v s off len) = usR (used h 5) (h[id]?) id v off len := by
  show id :: _ = _
  unfold usR blk
  cases h[id]? with
  | none => rfl
  | some o => cases o with
    | none => rfl
    | some b => by_cases hv : b.v = v <;> simp [hv]
theorem uv_ref' {h : Heap} {id v s off len : Nat} : used h 5 (.ref id v s off len) = usR (used h 4) (h[id]?) id v off len := by
  show id :: _ = _
  unfold usR blk
  cases h[id]? with
  | none => rfl
  | some o => cases o with
    | none => rfl
    | some b => by_cases hv : b.v = v <;> simp [hv]
theorem usR_p {h : Heap} {n : Nat} {id v s off len : Nat} {xs : List AV} (hp : xs.all plain1 = true) : usR (used h (n + 2)) (some (some ⟨v, s, xs⟩)) id v off len = [id] := by
  have hp' := List.all_eq_true.1 hp
  simp only [usR, if_true]
  rw [flatMap_plain (xs := sub xs off len) (f := used h (n + 2)) fun y hy => (frz_plain1 (n := n) (hp' y (List.mem_of_mem_drop (List.mem_of_mem_take hy)))).2]
theorem usR_u6 {h : Heap} {id v s off len : Nat} {l : List Int} : usR (used h 6) (some (some ⟨v, s, u l⟩)) id v off len = [id] := usR_p (n := 4) (u_plain l)
theorem usR_u5 {h : Heap} {id v s off len : Nat} {l : List Int} : usR (used h 5) (some (some ⟨v, s, u l⟩)) id v off len = [id] := usR_p (n := 3) (u_plain l)
theorem usR_u4 {h : Heap} {id v s off len : Nat} {l : List Int} : usR (used h 4) (some (some ⟨v, s, u l⟩)) id v off len = [id] := usR_p (n := 2) (u_plain l)
theorem fzR_ui6 {h : Heap} {v s off len : Nat} {l : List Int} : fzR (frz h 6) (some (some ⟨v, s, ui l⟩)) v off len = some (.lst (sub (ui l) off len)) := fzR_p (n := 4) (ui_plain l)
theorem fzR_ui5 {h : Heap} {v s off len : Nat} {l : List Int} : fzR (frz h 5) (some (some ⟨v, s, ui l⟩)) v off len = some (.lst (sub (ui l) off len)) := fzR_p (n := 3) (ui_plain l)
theorem fzR_ui4 {h : Heap} {v s off len : Nat} {l : List Int} : fzR (frz h 4) (some (some ⟨v, s, ui l⟩)) v off len = some (.lst (sub (ui l) off len)) := fzR_p (n := 2) (ui_plain l)
theorem usR_ui6 {h : Heap} {id v s off len : Nat} {l : List Int} : usR (used h 6) (some (some ⟨v, s, ui l⟩)) id v off len = [id] := usR_p (n := 4) (ui_plain l)
theorem usR_ui5 {h : Heap} {id v s off len : Nat} {l : List Int} : usR (used h 5) (some (some ⟨v, s, ui l⟩)) id v off len = [id] := usR_p (n := 3) (ui_plain l)
theorem usR_ui4 {h : Heap} {id v s off len : Nat} {l : List Int} : usR (used h 4) (some (some ⟨v, s, ui l⟩)) id v off len = [id] := usR_p (n := 2) (ui_plain l)
theorem take_set (l : List Int) (i : Nat) (y : Int) : List.take l.length (l.set i y) = l.set i y := List.take_of_length_le (by simp)
theorem take_snoc (l : List Int) (y : Int) : List.take (l.length + 1) (l ++ [y]) = l ++ [y] := List.take_of_length_le (by simp)
def stB (o : Option (AV × Heap)) (w : AV) : Bool := match o with | some q => AV.beq q.1 w | none => false
theorem stB_some {v w : AV} {h : Heap} : stB (some (v, h)) w = AV.beq v w := rfl
def stK (C : CR) (env : Env) (o : Option AOper) (h : Option Heap) : Bool := match o, h with
  | some o, some h => match o.d with | some d => stB (operA C o env h) (get env d) | none => false
  | _, _ => false
theorem stK_some {C : CR} {env : Env} {d : Nat} {op : AOp} {g : Option (Nat × Bool)} {h : Heap} : stK C env (some ⟨some d, op, g⟩) (some h) = stB (operA C ⟨some d, op, g⟩ env h) (get env d) := rfl
theorem stableA_eq {C : CR} {env : Env} {hs : List Heap} {ops : List AOper} {i j : Nat} : stableA C env hs ops (i, j) = stK C env (ops[i]?) (hs[j]?) := by
  unfold stableA stK stB
  simp only
  cases ops[i]? <;> cases hs[j]? <;> try rfl
  rename_i o h
  simp only
  cases hd : o.d <;> cases operA C o env h <;> rfl
def hpK (C : CR) (o : Option (AV × Heap)) (d : Option Nat) (r : List AOper) (env : Env) : List Heap := match o with | some p => p.2 :: heapsA C r (put env d p.1) p.2 | none => []
theorem hpK_some {C : CR} {v : AV} {h : Heap} {d : Option Nat} {r : List AOper} {env : Env} : hpK C (some (v, h)) d r env = h :: heapsA C r (put env d v) h := rfl
theorem heapsA_nil {C : CR} {env : Env} {h : Heap} : heapsA C [] env h = [] := rfl
theorem heapsA_cons {C : CR} {d : Option Nat} {op : AOp} {g : Option (Nat × Bool)} {r : List AOper} {env : Env} {h : Heap} : heapsA C (⟨d, op, g⟩ :: r) env h = hpK C (operA C ⟨d, op, g⟩ env h) d r env := rfl
theorem Zd_some {F : Nat → Option AFunc} {ks : List Nat} {Q : Ex → St → Prop} {s : St} {k : Kt} {env : Env} {h : Heap} {ops : List AOper} {plan : List (Nat × Nat)} :
    Zd F ks Q (some (env, h)) ops plan s k = (plan.all (stableA (CL F) env (s.h :: heapsA (CL F) ops s.env s.h) ops) = true ∧ Y F ks Q k .normal ⟨St.keep ks env, h⟩) := rfl
theorem sub_s {x : AV} {xs : List AV} {o n : Nat} : sub (x :: xs) (o + 1) n = sub xs o n := rfl
theorem sub_z {x : AV} {xs : List AV} {n : Nat} : sub (x :: xs) 0 (n + 1) = x :: sub xs 0 n := rfl
theorem sub_0 {x : AV} {xs : List AV} {o : Nat} : sub (x :: xs) o 0 = [] := List.take_zero
theorem sub_n {o n : Nat} : sub [] o n = [] := by unfold sub; rw [List.drop_nil, List.take_nil]
def cvA (C : CR) (f : Nat) (o : Option (List AV)) : Option AV := match o with | some xs => CP C f xs | none => none
theorem cvA_some {C : CR} {f : Nat} {xs : List AV} : cvA C f (some xs) = CP C f xs := rfl
theorem callV_eq {C : CR} {f : Nat} {args : List AV} : callV C f args = cvA C f (fzs [] args) := by
  unfold callV cvA fzs CP
  cases args.mapM (frz [] deep) <;> rfl
theorem nb_eq (a b : Bool) : (!(a == b)) = (a != b) := rfl
theorem lt0 {x : Int} (h : 0 ≤ x) : (x < 0) = False := eq_false (by omega)
theorem take_drop_all {l : List Int} {n : Nat} : List.take (l.length - n) (List.drop n l) = List.drop n l := List.take_of_length_le (by simp)
theorem fzR_nil {f : AV → Option AV} {v s : Nat} : fzR f (some (some ⟨v, s, []⟩)) v 0 0 = some (.lst []) := by simp [fzR, sub]
theorem usR_nil {f : AV → List Nat} {id v s : Nat} : usR f (some (some ⟨v, s, []⟩)) id v 0 0 = [id] := by simp [usR, sub]
theorem u_take (l : List Int) (n : Nat) : List.take n (u l) = u (List.take n l) := by simp [u]
theorem u_drop (l : List Int) (n : Nat) : List.drop n (u l) = u (List.drop n l) := by simp [u]
theorem ui_take (l : List Int) (n : Nat) : List.take n (ui l) = ui (List.take n l) := by simp [ui]
theorem ui_drop (l : List Int) (n : Nat) : List.drop n (ui l) = ui (List.drop n l) := by simp [ui]
theorem take_min' (l : List Int) (m : Nat) : List.take (min l.length m) l = List.take m l := by
  rw [List.take_eq_take_iff]; omega
theorem take_cpy {a : Int} {n : Nat} {l : List Int} {z : Int} (h : a ≤ (n : Int)) : List.take n (List.take a.toNat (List.replicate n z) ++ (List.take (n - a.toNat) l ++ List.drop (a.toNat + min l.length (n - a.toNat)) (List.replicate n z))) =
    List.take a.toNat (List.replicate n z) ++ (List.take (n - a.toNat) l ++ List.drop (a.toNat + min l.length (n - a.toNat)) (List.replicate n z)) := List.take_of_length_le (by simp; omega)
def fsK (o : Option AV) (t : Nat) (env : Env) (h : Heap) (ids : List Nat) : Option St := match o with | some y => some ⟨put env (some t) y, kill h ids⟩ | none => none
theorem fsK_some {y : AV} {t : Nat} {env : Env} {h : Heap} {ids : List Nat} : fsK (some y) t env h ids = some ⟨(t, y) :: env, kill h ids⟩ := rfl
theorem frzSt_eq {t : Nat} {env : Env} {h : Heap} : frzSt t ⟨env, h⟩ = fsK (fz h (get env t)) t env h (used h deep (get env t)) := by
  unfold frzSt fsK fz
  simp only
  cases frz h deep (get env t) <;> rfl
theorem le_lt {a b : Nat} (h : a < b) : (a ≤ b) = True := eq_true (Nat.le_of_lt h)
theorem set_concat {α : Type} (g : List α) (x y : α) : (g ++ [x]).set g.length y = g ++ [y] := by simp
def Fin (res : List (Nat × Option (Nat × Bool))) (x : AV) (e : Ex) (s : St) : Prop := (e = .normal ∨ e = .ret) ∧ onS (resA res s) fun r => fz r.2 r.1 = some x
def FinB (o : Option (AV × Heap)) (x : AV) : Prop := match o with | some r => fz r.2 r.1 = some x | none => False
theorem Fin_normal {res : List (Nat × Option (Nat × Bool))} {x : AV} {s : St} : Fin res x .normal s ↔ FinB (resA res s) x := by
  unfold Fin FinB onS
  cases resA res s <;> simp
theorem Fin_ret {res : List (Nat × Option (Nat × Bool))} {x : AV} {s : St} : Fin res x .ret s ↔ FinB (resA res s) x := by
  unfold Fin FinB onS
  cases resA res s <;> simp
theorem FinB_some {v : AV} {h : Heap} {x : AV} : FinB (some (v, h)) x = (fz h v = some x) := rfl
def FinR (res : List (Nat × Option (Nat × Bool))) (x : AV × Heap) (e : Ex) (s : St) : Prop := (e = .normal ∨ e = .ret) ∧ resA res s = some x
theorem FinR_normal {res : List (Nat × Option (Nat × Bool))} {x : AV × Heap} {s : St} : FinR res x .normal s ↔ resA res s = some x := by simp [FinR]
theorem FinR_ret {res : List (Nat × Option (Nat × Bool))} {x : AV × Heap} {s : St} : FinR res x .ret s ↔ resA res s = some x := by simp [FinR]
theorem CP_X {F : Nat → Option AFunc} {f np nt : Nat} {ks : List Nat} {res : List (Nat × Option (Nat × Bool))} {body : ACode} {args : List AV} {x : AV} (hf : F f = some ⟨np, nt, ks, res, body⟩) (hn : args.length = np)
    (H : X F ks (Fin res x) body ⟨args0 0 args, []⟩ .done) : CP (CL F) f args = some x := by
  obtain ⟨e, s', h1, he, hr⟩ := H
  obtain ⟨r, hr1, hr2⟩ := onS_some.1 hr
  exact CP_of (CL_run hf hn h1 he hr1) hr2
theorem CL_X {F : Nat → Option AFunc} {f np nt : Nat} {ks : List Nat} {res : List (Nat × Option (Nat × Bool))} {body : ACode} {args : List AV} {h : Heap} {x : AV × Heap} (hf : F f = some ⟨np, nt, ks, res, body⟩) (hn : args.length = np)
    (H : X F ks (FinR res x) body ⟨args0 0 args, h⟩ .done) : CL F f args h = some x := by
  obtain ⟨e, s', h1, he, hr⟩ := H
  exact CL_run hf hn h1 he hr
theorem go {p q : Prop} (h : q) (e : p = q := by
    simp (config := { maxSteps := 1000000 }) only [X_skip, X_exit, X_ret, X_reg, X_regd, Zd_some, stableA_eq, stK_some, stB_some, hpK_some, heapsA_nil, heapsA_cons, AV.beq_self, X_seq, X_cond, X_block, X_frz, Y_done, Y_seq, Y_seq_exit, Y_seq_ret, Y_blk, Y_blk_exit, Y_blk_ret, Z_some, V_some, B_true, B_false, Fin_normal, Fin_ret, FinB_some, FinR_normal, FinR_ret,
      regA_nil, regA_cons, regK_some, operA_none, operA_some, gd_tt, gd_ff, gd_tf, gd_ft, gd_sk, put_some, put_none, keep_nil, keep_cons,
      ev_t, ev_c, ev_f, get_cons, get_nil, bind_some', map_some', opA, binA, unA, eqA, mm2, mmAll, lenA, capA, loadA, storeA, blk, elems, cells, okE, okCell, mkv, Go.AM.part, Go.AM.partA, sub_s, sub_z, sub_0, sub_n, callV_eq, cvA_some, nb_eq, le_lt, set_concat, frzSt_eq, fsK_some, take_min', take_cpy, List.append_assoc, fzR_nil, usR_nil, u_take, u_drop, ui_take, ui_drop, lt0, take_drop_all, u_nil, ui_nil, shut, sliceA, bndA, bndO, appA, copyA, mkA, fillA, fillS, res1, resA, args0_nil, args0_cons,
      callA_pure, callA_raw, cpA_some, cpB_some, fzK_some, fzs_nil, fzs_cons, uses_nil, uses_cons, kill_nil, kill_cons, fz_int, fz_bool, fz_str, fz_lst, fz_nil, fz_emp, fz_undef, fz_nilp, us_int, us_bool, us_str, us_lst, us_nil, us_emp, us_undef, us_nilp, fz_tup, fz_agg, tupK_some, aggK_some, fys_nil, fys_cons, fy_int, fy_bool, fy_str, fy_lst, fy_nil, fy_emp, fy_undef, fy_nilp, fy_agg, fvs_nil, fvs_cons, fv_int, fv_bool, fv_lst, fv_nil, fv_emp, us_agg, us_tup, uys_nil, uys_cons, uy_int, uy_bool, uy_lst, uy_nil, uy_emp, uy_undef, uy_agg, uvs_nil, uvs_cons, uv_int, uv_bool, uv_lst, uv_nil, uv_emp, u_len, u_set, u_rep, u_okS, u_sub, ui_len, ui_set, ui_rep, ui_okS, ui_sub, fzR_ui6, fzR_ui5, fzR_ui4, usR_ui6, usR_ui5, usR_ui4, take_set, take_snoc, Int.zero_sub, List.length_set, fz_ref', fy_ref', fv_ref', fzR_u6, fzR_u5, fzR_u4, us_ref', uy_ref', uv_ref', usR_u6, usR_u5, usR_u4,
      List.nil_append, List.append_nil, List.cons_append, List.map_cons, List.map_nil, List.mapM_cons, List.mapM_nil, Option.pure_def, Option.map_none, Option.map_some, Option.bind_some, Option.bind_none, Nat.sub_zero, Nat.add_one_le_iff, List.reduceReplicate, List.getElem?_concat_length, List.take_length, List.length_append, Option.bind_eq_bind, List.all_cons, List.all_nil, List.set_cons_zero, List.set_cons_succ, List.take_zero, List.drop_zero, List.take_succ_cons, List.drop_succ_cons, List.take_nil, List.drop_nil,
      decide_eq_true_eq, decide_eq_false_iff_not, decide_true, decide_false, if_true, if_false, true_and, and_true, and_self, or_true, true_or, false_or, or_false, not_true_eq_false, not_false_eq_true, Bool.false_eq_true, Bool.true_eq_false, Bool.and_true, Bool.true_and, Bool.not_true, Bool.not_false, beq_self_eq_true, reduceCtorEq, reduceIte,
      Nat.reduceEqDiff, Nat.reduceAdd, Nat.reduceSub, Nat.reduceMul, Nat.reducePow, Nat.reduceLT, Nat.reduceLeDiff, Nat.reduceBEq, Int.reduceToNat, Int.reduceLT, Int.reduceLE, Int.reduceEq, Nat.add_zero, Nat.zero_add, Nat.le_refl, Int.le_refl, List.length_cons, List.length_nil, List.getElem?_cons_zero, List.getElem?_cons_succ, ge_iff_le, gt_iff_lt, *]
    try rfl) : p := e ▸ h
end Go.AM

end
section
set_option linter.unusedVariables false
set_option linter.unusedSimpArgs false
namespace Go.AM
open Go Go.RowKit Go.WideShapes
structure Rd (P : Program) (t : TypeId) {α : Type} (f : α → List AV) (ok : α → Prop) : Prop where
  rd : ∀ {H : Type} {enc : TypeId × Value → H} {w : World} {base : Nat} {sp : Nat → Bool} {held : Bool} {fuel : Nat} {cs : List Value} {x : DataW H × List MemPlace},
    DataW.trod enc P w base sp held fuel t cs = some x → (∀ n ∈ x.1.weights P t, n ≤ reachBytes) →
    ∃ a, ok a ∧ (f a).length = cs.length ∧ ∀ i y, (f a)[i]? = some y → FRel (fun _ => False) w y (cs.getD i Go.undef)
theorem rd_int {P : Program} {t : TypeId} {k : IntKind} (ht : P.underlying t = some (.int k)) : Rd P t (fun n : Int => [.int k n]) fun n => (Lit.int k n).wf = true := by
  constructor
  intro H enc w base sp held fuel cs x h _
  obtain ⟨n, rfl, _, hw⟩ := DataW.trod_int ht h
  refine ⟨n, hw, rfl, fun i y hy => ?_⟩
  cases i with
  | zero => simp at hy; subst hy; exact .int _ _
  | succ i => simp at hy
theorem rd_bool {P : Program} {t : TypeId} (ht : P.underlying t = some .bool) : Rd P t (fun b : Bool => [.bool b]) fun _ => True := by
  constructor
  intro H enc w base sp held fuel cs x h _
  obtain ⟨b, rfl, _⟩ := DataW.trod_bool ht h
  refine ⟨b, trivial, rfl, fun i y hy => ?_⟩
  cases i with
  | zero => simp at hy; subst hy; exact .bool _
  | succ i => simp at hy
theorem cells_some {w : World} {base : Nat} {a : Addr} {n : Nat} {cs : List Value} (h : w.cells? base a n = some cs) : cs.length = n ∧ ∀ j, j < n → w.cell? (a.add j) = some (cs.getD j Go.undef) := by
  unfold World.cells? at h
  split at h
  · have hl := mapM_some_length h
    rw [List.length_range] at hl
    refine ⟨hl, fun j hj => ?_⟩
    have := mapM_some_get h j j (by simp [hj])
    rw [this]
    simp [List.getD, List.getElem?_eq_getElem (show j < cs.length by omega)]
  · cases h
theorem mem_weightsAll' {H : Type} {P : Program} {e : TypeId} : ∀ {ds : List (DataW H)} {d : DataW H}, d ∈ ds → ∀ n ∈ d.weights P e, n ∈ DataW.weightsAll P e ds
  | d0 :: ds, d, hd, n, hn => by
    simp only [DataW.weightsAll, List.mem_append]
    rcases List.mem_cons.1 hd with rfl | hd
    · exact .inl hn
    · exact .inr (mem_weightsAll' hd n hn)
theorem cell_lt {w : World} {a : Addr} {v : Value} (h : w.cell? a = some v) : a.block < w.heap.size := by
  unfold World.cell? at h
  apply Classical.byContradiction
  intro hn
  rw [Array.getElem?_eq_none (by omega)] at h
  cases h
theorem list_of {α : Type} {Pr : Nat → α → Prop} : ∀ len, (∀ i, i < len → ∃ a, Pr i a) → ∃ as : List α, as.length = len ∧ ∀ i, i < len → ∃ a, as[i]? = some a ∧ Pr i a := by
  intro len
  induction len with
  | zero => exact fun _ => ⟨[], rfl, fun i hi => by omega⟩
  | succ m ih =>
    intro hel
    obtain ⟨as, h1, h2⟩ := ih fun i hi => hel i (by omega)
    obtain ⟨a, h3⟩ := hel m (by omega)
    refine ⟨as ++ [a], by simp [h1], fun i hi => ?_⟩
    rcases Nat.lt_or_ge i m with hlt | hge
    · obtain ⟨b, h4, h5⟩ := h2 i hlt
      exact ⟨b, by rw [List.getElem?_append_left (by omega)]; exact h4, h5⟩
    · have : i = m := by omega
      subst this
      exact ⟨a, by rw [List.getElem?_append_right (by omega), h1]; simp, h3⟩
theorem rd_slice {P : Program} {t e : TypeId} {α : Type} {f : α → List AV} {ok : α → Prop} (ht : P.underlying t = some (.slice e)) (he : Rd P e f ok) (g : α → AV) (hg : ∀ a, cells (g a) = f a) {s : Nat} (hc : P.cellsOf e = s) (hs : ∀ a, (f a).length = s) (hs0 : 0 < s) :
    Rd P t (fun l : List α => [.lst (l.map g)]) fun l => (∀ a ∈ l, ok a) ∧ l.length * P.bytesOf e ≤ reachBytes := by
  constructor
  intro H enc w base sp held fuel cs x h hw
  rcases DataW.trod_slice ht h with ⟨rfl, rfl⟩ | ⟨ad, len, cap, elems, rest, n, rfl, rfl, rfl, hb, hlc, hcm, hel, hget, _, _⟩
  · refine ⟨[], ⟨fun a ha => (by cases ha), by simp⟩, rfl, fun i y hy => ?_⟩
    cases i with
    | zero => simp at hy; subst hy; exact .lst0 _ _ fun _ => rfl
    | succ i => simp at hy
  · have hwt : elems.length * P.bytesOf e ≤ reachBytes := by
      have := hw ((elems.length + rest.length) * P.bytesOf e) (by simp [DataW.weights, ht])
      exact Nat.le_trans (Nat.mul_le_mul_right _ (by omega)) this
    have hel' : ∀ i, i < len → ∃ a, ok a ∧ ∀ j y, (f a)[j]? = some y → ∃ u, w.cell? (ad.add (i * s + j)) = some u ∧ FRel (fun _ => False) w y u := by
      intro i hi
      have h1 := hget i hi
      rw [List.getElem?_eq_getElem (by omega)] at h1
      obtain ⟨cs, hcs, htr⟩ := Option.bind_eq_some_iff.1 h1
      obtain ⟨c1, c2⟩ := cells_some hcs
      obtain ⟨a, ha, hl, hr⟩ := he.rd htr (fun m hm => hw m (by
        simp only [DataW.weights, ht, List.mem_cons, List.mem_append]
        refine .inr (.inl (mem_weightsAll' (d := elems[i].1) (List.mem_map.2 ⟨_, List.getElem_mem _, rfl⟩) m hm))))
      refine ⟨a, ha, fun j y hy => ⟨cs.getD j Go.undef, ?_, hr j y hy⟩⟩
      have hj : j < cs.length := by rw [← hl]; exact (List.getElem?_eq_some_iff.1 hy).1
      have := c2 j (by omega)
      rw [add_add, hc] at this
      exact this
    have hex := list_of len hel'
    obtain ⟨as, hal, hag⟩ := hex
    have hokall : ∀ a ∈ as, ok a := by
      intro a ha
      obtain ⟨i, hi, rfl⟩ := List.getElem_of_mem ha
      obtain ⟨b, h1, h2, _⟩ := hag i (by omega)
      rw [List.getElem?_eq_getElem hi] at h1
      rw [Option.some.inj h1]; exact h2
    refine ⟨as, ⟨hokall, by rw [hal, ← hel]; exact hwt⟩, rfl, fun i y hy => ?_⟩
    cases i with
    | succ i => simp at hy
    | zero =>
      simp at hy
      subst hy
      show FRel _ w _ (.slice (some ad) len cap)
      rcases Nat.eq_zero_or_pos len with h0 | hpos
      · have : as = [] := List.eq_nil_of_length_eq_zero (by omega)
        subst this
        rw [h0]
        exact .lst0 _ _ fun hx => by cases hx
      · have hlen : (as.map g).length = len := by simp [hal]
        rw [← hlen]
        have hcell : ∀ i j, i < as.length → j < s → ∃ u, w.cell? (ad.add (i * s + j)) = some u := by
          intro i j hi hj
          obtain ⟨a, h1, h2, h3⟩ := hag i (by omega)
          have hlt : j < (f a).length := by rw [hs]; exact hj
          obtain ⟨u, hu, _⟩ := h3 j _ (List.getElem?_eq_getElem hlt)
          exact ⟨u, hu⟩
        refine .lst (as.map g) ad cap s (fun i j => match w.cell? (ad.add (i * s + j)) with | some u => u | none => Go.undef) (by rw [hlen]; exact hlc) (fun e' he' => ?_) (fun hx => hx) ?_ (fun i j hi hj => ?_) fun i j e' x' hi hj => ?_
        · obtain ⟨a, _, rfl⟩ := List.mem_map.1 he'
          rw [hg, hs]
        · obtain ⟨u, hu⟩ := hcell 0 0 (by omega) hs0
          have := cell_lt hu
          rwa [add_block] at this
        · obtain ⟨u, hu⟩ := hcell i j (by simpa using hi) hj
          simp only [hu]
        · rw [List.getElem?_map] at hi
          obtain ⟨a, ha, rfl⟩ := Option.map_eq_some_iff.1 hi
          have hlt : i < as.length := (List.getElem?_eq_some_iff.1 ha).1
          obtain ⟨b, h1, h2, h3⟩ := hag i (by omega)
          rw [ha] at h1
          obtain rfl := Option.some.inj h1
          rw [hg] at hj
          obtain ⟨u, hu, hr⟩ := h3 j x' hj
          simp only [hu]
          exact hr
structure RdFs (P : Program) (fs : List Field) (off : Nat) {α : Type} (f : α → List AV) (ok : α → Prop) : Prop where
  rd : ∀ {H : Type} {enc : TypeId × Value → H} {w : World} {base : Nat} {sp : Nat → Bool} {held : Bool} {fuel : Nat} {cs : List Value} {xs : List (DataW H × List MemPlace)},
    xs.length = fs.length → (∀ (i : Nat) (fd : Field), fs[i]? = some fd → DataW.trod enc P w base sp held fuel fd.type ((cs.drop fd.offset).take (P.cellsOf fd.type)) = xs[i]?) →
    (∀ n ∈ DataW.weightsEach P (fs.map (·.type)) (xs.map (·.1)), n ≤ reachBytes) →
    ∃ a, ok a ∧ ∀ i y, (f a)[i]? = some y → FRel (fun _ => False) w y (cs.getD (off + i) Go.undef)
theorem rdfs_nil {P : Program} {off : Nat} : RdFs P [] off (fun _ : Unit => []) fun _ => True := by
  constructor
  intro H enc w base sp held fuel cs xs _ _ _
  exact ⟨(), trivial, fun i y hy => by simp at hy⟩
theorem rdfs_cons {P : Program} {fd : Field} {fs : List Field} {off s : Nat} {α β : Type} {f : α → List AV} {ok : α → Prop} {g : β → List AV} {okb : β → Prop} (ho : fd.offset = off) (hc : P.cellsOf fd.type = s) (hs : ∀ a, (f a).length = s) (h1 : Rd P fd.type f ok) (h2 : RdFs P fs (off + s) g okb) :
    RdFs P (fd :: fs) off (fun p : α × β => f p.1 ++ g p.2) fun p => ok p.1 ∧ okb p.2 := by
  constructor
  intro H enc w base sp held fuel cs xs hl ht hw
  cases xs with
  | nil => simp at hl
  | cons x xs =>
    have t0 := ht 0 fd rfl
    rw [ho, hc] at t0
    simp only [List.getElem?_cons_zero] at t0
    simp only [List.map_cons, DataW.weightsEach, List.mem_append] at hw
    obtain ⟨a, a1, a2, a3⟩ := h1.rd t0 fun n hn => hw n (.inl hn)
    obtain ⟨b, b1, b2⟩ := h2.rd (cs := cs) (xs := xs) (by simpa using hl) (fun i fd' hf => by have := ht (i + 1) fd' (by simpa using hf); simpa using this) fun n hn => hw n (.inr hn)
    refine ⟨(a, b), ⟨a1, b1⟩, fun i y hy => ?_⟩
    simp only at hy
    by_cases hi : i < s
    · rw [List.getElem?_append_left (by rw [hs]; exact hi)] at hy
      have := a3 i y hy
      have e : ((cs.drop off).take s).getD i Go.undef = cs.getD (off + i) Go.undef := by
        simp only [List.getD_eq_getElem?_getD]
        rw [List.getElem?_take_of_lt hi, List.getElem?_drop]
      rw [e] at this
      exact this
    · rw [List.getElem?_append_right (by rw [hs]; omega), hs] at hy
      have := b2 (i - s) y hy
      rw [show off + s + (i - s) = off + i by omega] at this
      exact this
theorem rd_struct {P : Program} {t : TypeId} {fs : Array Field} {α : Type} {f : α → List AV} {ok : α → Prop} (ht : P.underlying t = some (.struct fs)) (hl : ∀ a, (f a).length = P.cellsOf t) (h : RdFs P fs.toList 0 f ok) : Rd P t f ok := by
  constructor
  intro H enc w base sp held fuel cs x hx hw
  obtain ⟨xs, n, rfl, rfl, hcl, hxl, hget⟩ := DataW.trod_struct ht hx
  obtain ⟨a, h1, h2⟩ := h.rd (cs := cs) (xs := xs) (by rw [hxl]; simp) (fun i fd hf => hget i fd (by simpa using hf)) (fun m hm => hw m (by simp only [DataW.weights, ht]; exact hm))
  exact ⟨a, h1, by rw [hl, hcl], fun i y hy => by simpa using h2 i y hy⟩
theorem Rd.map {P : Program} {t : TypeId} {α β : Type} {f : α → List AV} {ok : α → Prop} {g : β → List AV} {okb : β → Prop} (h : Rd P t f ok) (φ : α → β) (hf : ∀ a, f a = g (φ a)) (ho : ∀ a, ok a → okb (φ a)) : Rd P t g okb := by
  constructor
  intro H enc w base sp held fuel cs x hx hw
  obtain ⟨a, h1, h2, h3⟩ := h.rd hx hw
  exact ⟨φ a, ho a h1, by rw [← hf]; exact h2, fun i y hy => h3 i y (by rw [hf]; exact hy)⟩
theorem rd_atom {H : Type} {enc : TypeId × Value → H} {P : Program} {w : World} {base : Nat} {sp : Nat → Bool} {held : Bool} {t : TypeId} {v : Value} {d : DataW H} {ps : List MemPlace} {α : Type} {f : α → AV} {ok : α → Prop}
    (h : Rd P t (fun a => [f a]) ok) (ht : DataW.Trod enc P w base sp held t v d ps) (hv : v.cells = #[v]) (hw : ∀ n ∈ d.weights P t, n ≤ reachBytes) : ∃ a, ok a ∧ FRel (fun _ => False) w (f a) v := by
  obtain ⟨fuel, hf⟩ := ht
  rw [hv] at hf
  obtain ⟨a, h1, _, h3⟩ := h.rd hf hw
  exact ⟨a, h1, by simpa using h3 0 (f a) rfl⟩
def k0 : Kr := ⟨0, fun _ => none, fun _ => False, fun _ => False⟩
theorem h0 (w : World) : HRel k0 [] w := ⟨rfl, fun id b h => by simp at h, fun id _ => rfl, fun i j l m h => (by cases h), fun i l h => (by cases h), fun b h => h.elim, fun id h => h.elim⟩
theorem bad0 : k0.bad = fun _ => False := by
  funext b
  apply propext
  constructor
  · rintro (h | ⟨id, l, h, _⟩)
    · exact h
    · cases h
  · exact fun h => h.elim
theorem law_calls {P : Program} {F : Nat → Option AFunc} (hF : ∀ f af, F f = some af → okF P f af = true) {f : Nat} {xs : List AV} (h : CP (CL F) f xs = some (.bool true)) {w : World} {vs : Array Value} (hl : xs.length = vs.size)
    (hr : ∀ i x, xs[i]? = some x → FRel (fun _ => False) w x (vs.getD i Go.undef)) : Calls P f vs w fun e w' => e = .returned (.bool true) ∧ Below w.heap.size w w' := by
  unfold CP at h
  obtain ⟨⟨r, h'⟩, h1, h2⟩ := Option.bind_eq_some_iff.1 h
  have hrb : r = .bool true := by
    cases r <;> simp [frz, deep] at h2
    · exact congrArg _ h2
    · obtain ⟨_, _, h2⟩ := Option.bind_eq_some_iff.1 h2
      obtain ⟨_, _, h2⟩ := Option.map_eq_some_iff.1 h2
      cases h2
    · obtain ⟨_, h2⟩ := h2
      obtain ⟨_, _, h2⟩ := Option.bind_eq_some_iff.1 h2
      obtain ⟨_, _, h2⟩ := Option.bind_eq_some_iff.1 h2
      obtain ⟨_, _, h2⟩ := Option.map_eq_some_iff.1 h2
      cases h2
    · obtain ⟨_, _, h2⟩ := Option.bind_eq_some_iff.1 h2
      obtain ⟨_, _, h2⟩ := Option.map_eq_some_iff.1 h2
      cases h2
  subst hrb
  obtain ⟨n, hn⟩ := CL_some.1 h1
  obtain ⟨_, hS⟩ := (call_sound hF n).1 _ _ _ _ _ hn
  refine (hS k0 w vs (h0 w) ⟨hl, fun i x hx => .frz (by rw [bad0]; exact hr i x hx)⟩).mono ?_
  rintro e w' ⟨v, k', rfl, hFr, _, hv⟩
  obtain rfl := hv.bool_inv
  exact ⟨rfl, hFr.os, hFr.tape, hFr.output, hFr.size, fun b hb => (hFr.old b hb (by rintro ⟨id, l, h, _⟩; cases h)).1⟩
end Go.AM

end
section
set_option linter.unusedVariables false
namespace Go.K
open Go Go.RowKit
structure Aside0 (p : Prop) : Prop where mk :: (out : p)
def rd (xs : List Int) (i : Int) : Int := xs.getD i.toNat 0
def rdl (xs : List (List Int)) (i : Int) : List Int := xs.getD i.toNat []
def mx (a b : Int) : Int := if a < b then b else a
def mn (a b : Int) : Int := if b < a then b else a
def shl (k : IntKind) (x y : Int) : Int := k.wrap (x * 2 ^ min y.toNat k.bits)
def shr (k : IntKind) (x y : Int) : Int := x / 2 ^ min y.toNat k.bits
def Ev {α : Type} (g : Nat → Option α) (r : α) : Prop := ∃ K, ∀ k, K ≤ k → g k = some r
theorem Ev.bind {α β : Type} {g : Nat → Option α} {f : Nat → α → Option β} {a : α} {r : β} (h : Ev g a) (k : Ev (fun n => f n a) r) : Ev (fun n => (g n).bind (f n)) r := by
  obtain ⟨K, hK⟩ := h
  obtain ⟨L, hL⟩ := k
  exact ⟨max K L, fun n hn => by simp only [hK n (by omega), Option.bind_some]; exact hL n (by omega)⟩
end Go.K

end
section
set_option linter.unusedVariables false
set_option linter.unusedSimpArgs false
namespace Go.S
open Go Go.AM Go.RowKit Go.K
theorem nz_sub (n : Nat) : n - 0 = n := by omega
theorem nz_add (n : Nat) : 0 + n = n := by omega
theorem tk_0 {α : Type} (l : List α) : List.take 0 l = [] := by cases l <;> rfl
theorem nl_app {α : Type} (l : List α) : [] ++ l = l := by cases l <;> rfl
theorem take_one_cons (a : Int) (l : List Int) : List.take (1 + l.length) (a :: l) = a :: l := List.take_of_length_le (by simp; omega)
theorem i64_w (n : Int) : IntKind.i64.wrap n = wrap64 n := by rw [IntKind.wrap_i64]; unfold wrap64; rfl
theorem bits_and (a b : Int) : IntKind.u64.wrap (BitVec.ofInt IntKind.u64.bits a &&& BitVec.ofInt IntKind.u64.bits b).toNat = Go.bits .and .u64 a b := rfl
theorem bits_or (a b : Int) : IntKind.u64.wrap (BitVec.ofInt IntKind.u64.bits a ||| BitVec.ofInt IntKind.u64.bits b).toNat = Go.bits .or .u64 a b := rfl
theorem u_get (l : List Int) (i : Int) (h0 : 0 ≤ i) (h1 : i < (l.length : Int)) : (u l)[i.toNat]? = some (.int .u64 (rd l i)) := by
  have : i.toNat < l.length := by omega
  simp [u, rd, List.getElem?_eq_getElem this, List.getD]
theorem ui_get (l : List Int) (i : Int) (h0 : 0 ≤ i) (h1 : i < (l.length : Int)) : (ui l)[i.toNat]? = some (.int .i64 (rd l i)) := by
  have : i.toNat < l.length := by omega
  simp [ui, rd, List.getElem?_eq_getElem this, List.getD]
theorem ui_snoc (l : List Int) (y : Int) : ui l ++ [.int .i64 y] = ui (l ++ [y]) := by simp [ui]
theorem okSi_one (y : Int) : okS 1 [.int .i64 y] = true := rfl
theorem u_snoc (l : List Int) (y : Int) : u l ++ [.int .u64 y] = u (l ++ [y]) := by simp [u]
theorem okS_one (y : Int) : okS 1 [.int .u64 y] = true := rfl
theorem sub_one (x : AV) : sub [x] 0 1 = [x] := rfl
theorem none_some {α : Type} {r : α} {p : Prop} (h : none = some r) : p := by cases h
theorem ite_e {α : Type} {c : Prop} [Decidable c] {a b : Option α} {r : α} {p : Prop} (h : (if c then a else b) = some r) (h1 : c → a = some r → p) (h2 : ¬ c → b = some r → p) : p := by
  split at h
  · exact h1 ‹_› h
  · exact h2 ‹_› h
theorem bind_e {α β : Type} {a : Option α} {f : α → Option β} {r : β} {p : Prop} (h : a.bind f = some r) (h1 : ∀ x, a = some x → f x = some r → p) : p := by
  obtain ⟨x, h2, h3⟩ := Option.bind_eq_some_iff.1 h
  exact h1 x h2 h3
theorem bind_k {α β : Type} {a : Option α} {f : α → Option β} {r : β} {p : Prop} {x : α} (h0 : a = some x) (h : a.bind f = some r) (h1 : f x = some r → p) : p := by
  rw [h0] at h
  exact h1 h
theorem u_get0 {l : List Int} (h1 : (0 : Int) < (l.length : Int)) : (u l)[0]? = some (.int .u64 (rd l 0)) := u_get l 0 (Int.le_refl _) h1
theorem u_get1 {l : List Int} (h1 : (1 : Int) < (l.length : Int)) : (u l)[1]? = some (.int .u64 (rd l 1)) := u_get l 1 (by decide) h1
theorem ui_get0 {l : List Int} (h1 : (0 : Int) < (l.length : Int)) : (ui l)[0]? = some (.int .i64 (rd l 0)) := ui_get l 0 (Int.le_refl _) h1
theorem p32 : (2 : Int) ^ min 32 IntKind.u64.bits = 4294967296 := rfl
theorem fd32' (a : Int) : a.fdiv 4294967296 = a / 4294967296 := Int.fdiv_eq_ediv_of_nonneg _ (by decide)
theorem shr_eq' (x n : Int) : x.fdiv (2 ^ min n.toNat IntKind.u64.bits) = shr .u64 x n := by
  unfold shr
  exact Int.fdiv_eq_ediv_of_nonneg _ (Int.pow_nonneg (by decide))
theorem shl_eq' (x n : Int) : IntKind.u64.wrap (x * 2 ^ min n.toNat IntKind.u64.bits) = shl .u64 x n := rfl
theorem int_beq (a b : Int) : (a == b) = decide (a = b) := rfl
theorem mx_i (a b : Int) : (if b > a then b else a) = mx a b := rfl
theorem mn_i (a b : Int) : (if b < a then b else a) = mn a b := rfl
theorem go2 {p q : Prop} (h : q) (e : p = q := by
    simp (config := { maxSteps := 1000000 }) only [X_skip, X_exit, X_ret, X_reg, X_regd, Zd_some, stableA_eq, stK_some, stB_some, hpK_some, heapsA_nil, heapsA_cons, AV.beq_self, X_seq, X_cond, X_block, X_frz, Y_done, Y_seq, Y_seq_exit, Y_seq_ret, Y_blk, Y_blk_exit, Y_blk_ret, Z_some, V_some, B_true, B_false, Fin_normal, Fin_ret, FinB_some, FinR_normal, FinR_ret,
      regA_nil, regA_cons, regK_some, operA_none, operA_some, gd_tt, gd_ff, gd_tf, gd_ft, gd_sk, put_some, put_none, keep_nil, keep_cons,
      ev_t, ev_c, ev_f, get_cons, get_nil, bind_some', map_some', opA, binA, unA, eqA, mm2, mmAll, lenA, capA, loadA, storeA, blk, elems, cells, okE, okCell, mkv, Go.AM.part, Go.AM.partA, sub_s, sub_z, sub_0, sub_n, callV_eq, cvA_some, nb_eq, le_lt, set_concat, frzSt_eq, fsK_some, take_min', take_cpy, List.append_assoc, fzR_nil, usR_nil, u_take, u_drop, ui_take, ui_drop, lt0, take_drop_all, u_nil, ui_nil, shut, sliceA, bndA, bndO, appA, copyA, mkA, fillA, fillS, res1, resA, args0_nil, args0_cons,
      callA_pure, callA_raw, cpA_some, cpB_some, fzK_some, fzs_nil, fzs_cons, uses_nil, uses_cons, kill_nil, kill_cons, fz_int, fz_bool, fz_str, fz_lst, fz_nil, fz_emp, fz_undef, fz_nilp, us_int, us_bool, us_str, us_lst, us_nil, us_emp, us_undef, us_nilp, fz_tup, fz_agg, tupK_some, aggK_some, fys_nil, fys_cons, fy_int, fy_bool, fy_str, fy_lst, fy_nil, fy_emp, fy_undef, fy_nilp, fy_agg, fvs_nil, fvs_cons, fv_int, fv_bool, fv_lst, fv_nil, fv_emp, us_agg, us_tup, uys_nil, uys_cons, uy_int, uy_bool, uy_lst, uy_nil, uy_emp, uy_undef, uy_agg, uvs_nil, uvs_cons, uv_int, uv_bool, uv_lst, uv_nil, uv_emp, u_len, u_set, u_rep, u_okS, u_get, ui_get, u_sub, u_app, u_snoc, ui_app, ui_snoc, okS_one, okSi_one, sub_one, i64_w, bits_and, bits_or, fd32', p32, shr_eq', shl_eq', u_get0, u_get1, ui_get0, mx_i, mn_i, ui_len, ui_set, ui_rep, ui_okS, ui_sub, fzR_ui6, fzR_ui5, fzR_ui4, usR_ui6, usR_ui5, usR_ui4, take_set, take_snoc, take_one_cons, Int.zero_sub, List.length_set, fz_ref', fy_ref', fv_ref', fzR_u6, fzR_u5, fzR_u4, us_ref', uy_ref', uv_ref', usR_u6, usR_u5, usR_u4,
      List.nil_append, List.append_nil, List.cons_append, List.map_cons, List.map_nil, List.mapM_cons, List.mapM_nil, Option.pure_def, Option.map_none, Option.map_some, Option.bind_some, Option.bind_none, Nat.sub_zero, Nat.add_one_le_iff, List.reduceReplicate, List.getElem?_concat_length, List.take_length, List.length_append, Option.bind_eq_bind, List.all_cons, List.all_nil, List.set_cons_zero, List.set_cons_succ, List.take_zero, List.drop_zero, List.take_succ_cons, List.drop_succ_cons, List.take_nil, List.drop_nil,
      decide_eq_true_eq, decide_eq_false_iff_not, decide_true, decide_false, if_true, if_false, true_and, and_true, and_self, or_true, true_or, false_or, or_false, not_true_eq_false, not_false_eq_true, Bool.false_eq_true, Bool.true_eq_false, Bool.and_true, Bool.true_and, Bool.not_true, Bool.not_false, beq_self_eq_true, reduceCtorEq, reduceIte,
      Nat.reduceEqDiff, Nat.reduceAdd, Nat.reduceSub, Nat.reduceMul, Nat.reducePow, Nat.reduceLT, Nat.reduceLeDiff, Nat.reduceBEq, Int.reduceToNat, Int.reduceLT, Int.reduceLE, Int.reduceEq, Nat.add_zero, Nat.zero_add, Nat.le_refl, Int.le_refl, List.length_cons, List.length_nil, List.getElem?_cons_zero, List.getElem?_cons_succ, ge_iff_le, gt_iff_lt, *]
    try rfl) : p := e ▸ h
end Go.S

end
section
set_option linter.unusedVariables false
namespace Go.K
open Go Go.RowKit
def limb_Add.f (a0 : Int) (a1 : Int) (a2 : Int) : Option (Int × Int) := some (Go.bits .and .u64 (IntKind.u64.wrap ((IntKind.u64.wrap ((Go.bits .and .u64 a0 4294967295) + (Go.bits .and .u64 a1 4294967295))) + (Go.bits .and .u64 a2 4294967295))) 4294967295, (IntKind.u64.wrap ((IntKind.u64.wrap ((Go.bits .and .u64 a0 4294967295) + (Go.bits .and .u64 a1 4294967295))) + (Go.bits .and .u64 a2 4294967295))) / 4294967296)
def limb_Sub.f (a0 : Int) (a1 : Int) (a2 : Int) : Option (Int × Int) := if (Go.bits .and .u64 a0 4294967295) < (IntKind.u64.wrap ((Go.bits .and .u64 a1 4294967295) + (Go.bits .and .u64 a2 4294967295))) then (some (IntKind.u64.wrap ((IntKind.u64.wrap ((Go.bits .and .u64 a0 4294967295) + (IntKind.u64.wrap (((IntKind.u64.wrap ((IntKind.u64.wrap ((IntKind.u64.wrap ((Go.bits .and .u64 a1 4294967295) + (Go.bits .and .u64 a2 4294967295))) - (Go.bits .and .u64 a0 4294967295))) + 4294967295)) / 4294967296) * 4294967296)))) - (IntKind.u64.wrap ((Go.bits .and .u64 a1 4294967295) + (Go.bits .and .u64 a2 4294967295)))), (IntKind.u64.wrap ((IntKind.u64.wrap ((IntKind.u64.wrap ((Go.bits .and .u64 a1 4294967295) + (Go.bits .and .u64 a2 4294967295))) - (Go.bits .and .u64 a0 4294967295))) + 4294967295)) / 4294967296)) else (some (IntKind.u64.wrap ((IntKind.u64.wrap ((Go.bits .and .u64 a0 4294967295) + (0 * 4294967296))) - (IntKind.u64.wrap ((Go.bits .and .u64 a1 4294967295) + (Go.bits .and .u64 a2 4294967295)))), 0))
def limb_Mul.f (a0 : Int) (a1 : Int) (a2 : Int) (a3 : Int) : Option (Int × Int) := some (Go.bits .and .u64 (IntKind.u64.wrap ((IntKind.u64.wrap ((IntKind.u64.wrap ((Go.bits .and .u64 a0 4294967295) * (Go.bits .and .u64 a1 4294967295))) + (Go.bits .and .u64 a2 4294967295))) + (Go.bits .and .u64 a3 4294967295))) 4294967295, (IntKind.u64.wrap ((IntKind.u64.wrap ((IntKind.u64.wrap ((Go.bits .and .u64 a0 4294967295) * (Go.bits .and .u64 a1 4294967295))) + (Go.bits .and .u64 a2 4294967295))) + (Go.bits .and .u64 a3 4294967295))) / 4294967296)
def limb_Div.f (a0 : Int) (a1 : Int) (a2 : Int) : Option (Int × Int × Int) := if (Go.bits .and .u64 a2 4294967295) = 0 then (some (0, 0, 3)) else (if (Go.bits .and .u64 a0 4294967295) ≥ (Go.bits .and .u64 a2 4294967295) then (some (0, 0, 2)) else (some (IntKind.u64.wrap (Int.tdiv (Go.bits .or .u64 (IntKind.u64.wrap ((Go.bits .and .u64 a0 4294967295) * 4294967296)) (Go.bits .and .u64 a1 4294967295)) (Go.bits .and .u64 a2 4294967295)), Int.tmod (Go.bits .or .u64 (IntKind.u64.wrap ((Go.bits .and .u64 a0 4294967295) * 4294967296)) (Go.bits .and .u64 a1 4294967295)) (Go.bits .and .u64 a2 4294967295), 0)))
def limb_Bits.l0 : Nat → Int → Int → Int → Option (Int)
  | 0, _, _, _ => none
  | k + 1, x0, x3, x5 => if x5 < 32 then (if 0 ≤ x5 then (if (Go.bits .and .u64 (shr .u64 x0 x5) 1) = 1 then (limb_Bits.l0 k x0 (wrap64 (x5 + 1)) (wrap64 (x5 + 1))) else (limb_Bits.l0 k x0 x3 (wrap64 (x5 + 1)))) else (none)) else (some x3)
def limb_Bits.f (k : Nat) (a0 : Int) : Option (Int) := limb_Bits.l0 k a0 0 0
def limb_Zeros.l0 : Nat → Int → Int → Option (Int)
  | 0, _, _ => none
  | k + 1, x0, x4 => if x4 < 32 then (if 0 ≤ x4 then (if (Go.bits .and .u64 (shr .u64 x0 x4) 1) = 1 then (some x4) else (limb_Zeros.l0 k x0 (wrap64 (x4 + 1)))) else (none)) else (some 32)
def limb_Zeros.f (k : Nat) (a0 : Int) : Option (Int) := limb_Zeros.l0 k a0 0
def nat_trim.l0 : Nat → List Int → Int → Option (List Int)
  | 0, _, _ => none
  | k + 1, x0, x3 => if x3 > 0 then (if 0 ≤ (wrap64 (x3 - 1)) then (if (wrap64 (x3 - 1)) < (x0.length : Int) then (if (rd x0 (wrap64 (x3 - 1))) = 0 then (nat_trim.l0 k x0 (wrap64 (x3 - 1))) else (if 0 ≤ x3 then (if x3 ≤ (x0.length : Int) then (some (x0.take (x3 : Int).toNat)) else (none)) else (none))) else (none)) else (none)) else (if 0 ≤ x3 then (if x3 ≤ (x0.length : Int) then (some (x0.take (x3 : Int).toNat)) else (none)) else (none))
def nat_trim.f (k : Nat) (l0 : List Int) : Option (List Int) := nat_trim.l0 k l0 (l0.length : Int)
def nat_Make.l0 : Nat → List Int → List Int → Int → Int → Option (List Int × Int)
  | 0, _, _, _, _ => none
  | k + 1, x4, x10, x11, x12 => if x12 < x11 then (if 0 ≤ x12 then (if x12 < (x10.length : Int) then (if (rd x10 x12) ≥ 4294967296 then (some (([] : List Int), 2)) else (if x4.length < 17592186044416 then (nat_Make.l0 k (x4 ++ [rd x10 x12]) x10 x11 (wrap64 (x12 + 1))) else (none))) else (none)) else (none)) else ((nat_trim.f k x4).bind fun t298 => (some (t298, 0)))
def nat_Make.f (k : Nat) (l0 : List Int) : Option (List Int × Int) := if 0 ≤ (l0.length : Int) then (if ((l0.length : Int) : Int).toNat ≤ 35184372088832 then (nat_Make.l0 k (([] : List Int)) l0 (l0.length : Int) 0) else (none)) else (none)
def nat_at.f (l0 : List Int) (a1 : Int) : Option (Int) := if a1 ≥ (l0.length : Int) then (some 0) else (if 0 ≤ a1 then (if a1 < (l0.length : Int) then (some (rd l0 a1)) else (none)) else (none))
def nat_Add.l0 : Nat → List Int → List Int → Int → List Int → Int → Int → Int → Option (List Int)
  | 0, _, _, _, _, _, _, _ => none
  | k + 1, x0, x1, x5, x6, x7, x17, x18 => if x18 < x17 then ((nat_at.f x0 x18).bind fun t496 => ((nat_at.f x1 x18).bind fun t497 => ((limb_Add.f t496 t497 x7).bind fun bt498 => (if 0 ≤ x18 then (if x18 < (x6.length : Int) then (nat_Add.l0 k x0 x1 x5 (x6.set (x18 : Int).toNat bt498.1) bt498.2 x17 (wrap64 (x18 + 1))) else (none)) else (none))))) else (if 0 ≤ x5 then (if x5 < (x6.length : Int) then ((nat_trim.f k (x6.set (x5 : Int).toNat x7)).bind fun t502 => (some t502)) else (none)) else (none))
def nat_Add.f (k : Nat) (l0 : List Int) (l1 : List Int) : Option (List Int) := if 0 ≤ (wrap64 ((mx (l0.length : Int) (l1.length : Int)) + 1)) then (if (wrap64 ((mx (l0.length : Int) (l1.length : Int)) + 1) : Int).toNat ≤ 35184372088832 then (nat_Add.l0 k l0 l1 (mx (l0.length : Int) (l1.length : Int)) (List.replicate (wrap64 ((mx (l0.length : Int) (l1.length : Int)) + 1) : Int).toNat 0) 0 (mx (l0.length : Int) (l1.length : Int)) 0) else (none)) else (none)
def nat_Cmp.l0 : Nat → List Int → List Int → Int → Option (Int)
  | 0, _, _, _ => none
  | k + 1, x0, x1, x5 => if x5 ≥ 0 then (if 0 ≤ x5 then (if x5 < (x0.length : Int) then (if x5 < (x1.length : Int) then (if (rd x0 x5) < (rd x1 x5) then (some (-1)) else (if (rd x0 x5) > (rd x1 x5) then (some 1) else (nat_Cmp.l0 k x0 x1 (wrap64 (x5 - 1))))) else (none)) else (none)) else (none)) else (some 0)
def nat_Cmp.f (k : Nat) (l0 : List Int) (l1 : List Int) : Option (Int) := if (l0.length : Int) < (l1.length : Int) then (some (-1)) else (if (l0.length : Int) > (l1.length : Int) then (some 1) else (nat_Cmp.l0 k l0 l1 (wrap64 ((l0.length : Int) - 1))))
def nat_Sub.l0 : Nat → List Int → List Int → List Int → Int → Int → Int → Option (List Int × Int)
  | 0, _, _, _, _, _, _ => none
  | k + 1, x0, x1, x6, x7, x17, x18 => if x18 < x17 then (if 0 ≤ x18 then (if x18 < (x0.length : Int) then ((nat_at.f x1 x18).bind fun t510 => ((limb_Sub.f (rd x0 x18) t510 x7).bind fun bt511 => (if x18 < (x6.length : Int) then (nat_Sub.l0 k x0 x1 (x6.set (x18 : Int).toNat bt511.1) bt511.2 x17 (wrap64 (x18 + 1))) else (none)))) else (none)) else (none)) else ((nat_trim.f k x6).bind fun t514 => (some (t514, 0)))
def nat_Sub.f (k : Nat) (l0 : List Int) (l1 : List Int) : Option (List Int × Int) := (nat_Cmp.f k l0 l1).bind fun t505 => (if t505 < 0 then (some (([] : List Int), 6)) else (if 0 ≤ (l0.length : Int) then (if ((l0.length : Int) : Int).toNat ≤ 35184372088832 then ((some (List.replicate ((l0.length : Int) : Int).toNat 0 : List Int)).bind fun y506 => (nat_Sub.l0 k l0 l1 y506 0 (y506.length : Int) 0)) else (none)) else (none)))
def nat_Of.f (k : Nat) (a0 : Int) : Option (List Int) := (nat_trim.f k (([Int.tmod a0 4294967296, a0 / 4294967296] : List Int))).bind fun t387 => (some t387)
def nat_May.l0 : Nat → List Int → List Int → Int → Int → Option (Bool)
  | 0, _, _, _, _ => none
  | k + 1, x0, x5, x6, x7 => if x7 < x6 then (if 0 ≤ x7 then (if x7 < (x5.length : Int) then (if (rd x5 x7) ≥ 4294967296 then (some false) else (nat_May.l0 k x0 x5 x6 (wrap64 (x7 + 1)))) else (none)) else (none)) else (if (x0.length : Int) = 0 then (some true) else (if 0 ≤ (wrap64 ((x0.length : Int) - 1)) then (if (wrap64 ((x0.length : Int) - 1)) < (x0.length : Int) then (some ((rd x0 (wrap64 ((x0.length : Int) - 1))) != 0)) else (none)) else (none)))
def nat_May.f (k : Nat) (l0 : List Int) : Option (Bool) := nat_May.l0 k l0 l0 (l0.length : Int) 0
def nat_Bits.f (k : Nat) (l0 : List Int) : Option (Int) := if (wrap64 ((l0.length : Int) - 1)) < 0 then (some 0) else (if 0 ≤ (wrap64 ((l0.length : Int) - 1)) then (if (wrap64 ((l0.length : Int) - 1)) < (l0.length : Int) then ((limb_Bits.f k (rd l0 (wrap64 ((l0.length : Int) - 1)))).bind fun t961 => (some (wrap64 ((wrap64 (32 * (wrap64 ((l0.length : Int) - 1)))) + t961)))) else (none)) else (none))
def nat_shift.f (a0 : Int) : Option (Int) := if a0 < 0 then (some 2) else (if a0 > 100000 then (some 2) else (some 0))
def nat_Shl.l0 : Nat → Int → List Int → List Int → Int → Int → Option (List Int × Int)
  | 0, _, _, _, _, _ => none
  | k + 1, x1, x7, x28, x29, x30 => if x30 < x29 then (if 0 ≤ x30 then (if x30 < (x28.length : Int) then (if 0 ≤ (Int.tmod x1 32) then (if 0 ≤ (wrap64 (x30 + (wrap64 (Int.tdiv x1 32)))) then (if (wrap64 (x30 + (wrap64 (Int.tdiv x1 32)))) < (x7.length : Int) then (if 0 ≤ (wrap64 ((wrap64 (x30 + (wrap64 (Int.tdiv x1 32)))) + 1)) then (if (wrap64 ((wrap64 (x30 + (wrap64 (Int.tdiv x1 32)))) + 1)) < (x7.length : Int) then (nat_Shl.l0 k x1 ((x7.set ((wrap64 (x30 + (wrap64 (Int.tdiv x1 32)))) : Int).toNat (Go.bits .or .u64 (rd x7 (wrap64 (x30 + (wrap64 (Int.tdiv x1 32))))) (Int.tmod (shl .u64 (rd x28 x30) (Int.tmod x1 32)) 4294967296))).set ((wrap64 ((wrap64 (x30 + (wrap64 (Int.tdiv x1 32)))) + 1)) : Int).toNat ((shl .u64 (rd x28 x30) (Int.tmod x1 32)) / 4294967296)) x28 x29 (wrap64 (x30 + 1))) else (none)) else (none)) else (none)) else (none)) else (none)) else (none)) else (none)) else ((nat_trim.f k x7).bind fun t398 => (some (t398, 0)))
def nat_Shl.j0 : Nat → List Int → Int → Int → Bool → Option (List Int × Int)
  | 0, _, _, _, _ => none
  | k + 1, x0, x1, x6, x19 => if x19 = true then (some (([] : List Int), x6)) else (if 0 ≤ (wrap64 ((wrap64 ((x0.length : Int) + (wrap64 (Int.tdiv x1 32)))) + 1)) then (if (wrap64 ((wrap64 ((x0.length : Int) + (wrap64 (Int.tdiv x1 32)))) + 1) : Int).toNat ≤ 35184372088832 then (nat_Shl.l0 k x1 (List.replicate (wrap64 ((wrap64 ((x0.length : Int) + (wrap64 (Int.tdiv x1 32)))) + 1) : Int).toNat 0) x0 (x0.length : Int) 0) else (none)) else (none))
def nat_Shl.f (k : Nat) (l0 : List Int) (a1 : Int) : Option (List Int × Int) := (nat_shift.f a1).bind fun t390 => (if t390 = 0 then (nat_Shl.j0 k l0 a1 t390 ((l0.length : Int) == 0)) else (nat_Shl.j0 k l0 a1 t390 true))
def nat_Shr.l0 : Nat → List Int → Int → List Int → Int → Int → Option (List Int × Int)
  | 0, _, _, _, _, _ => none
  | k + 1, x0, x1, x7, x29, x30 => if x30 < x29 then (if 0 ≤ (wrap64 (x30 + (wrap64 (Int.tdiv x1 32)))) then (if (wrap64 (x30 + (wrap64 (Int.tdiv x1 32)))) < (x0.length : Int) then ((nat_at.f x0 (wrap64 ((wrap64 (x30 + (wrap64 (Int.tdiv x1 32)))) + 1))).bind fun t407 => (if 0 ≤ (Int.tmod x1 32) then (if 0 ≤ x30 then (if x30 < (x7.length : Int) then (nat_Shr.l0 k x0 x1 (x7.set (x30 : Int).toNat (Int.tmod (shr .u64 (Go.bits .or .u64 (rd x0 (wrap64 (x30 + (wrap64 (Int.tdiv x1 32))))) (IntKind.u64.wrap (t407 * 4294967296))) (Int.tmod x1 32)) 4294967296)) x29 (wrap64 (x30 + 1))) else (none)) else (none)) else (none))) else (none)) else (none)) else ((nat_trim.f k x7).bind fun t409 => (some (t409, 0)))
def nat_Shr.j0 : Nat → List Int → Int → Int → Bool → Option (List Int × Int)
  | 0, _, _, _, _ => none
  | k + 1, x0, x1, x6, x20 => if x20 = true then (some (([] : List Int), x6)) else (if 0 ≤ (wrap64 ((x0.length : Int) - (wrap64 (Int.tdiv x1 32)))) then (if (wrap64 ((x0.length : Int) - (wrap64 (Int.tdiv x1 32))) : Int).toNat ≤ 35184372088832 then ((some (List.replicate (wrap64 ((x0.length : Int) - (wrap64 (Int.tdiv x1 32))) : Int).toNat 0 : List Int)).bind fun y403 => (nat_Shr.l0 k x0 x1 y403 (y403.length : Int) 0)) else (none)) else (none))
def nat_Shr.f (k : Nat) (l0 : List Int) (a1 : Int) : Option (List Int × Int) := (nat_shift.f a1).bind fun t402 => (if t402 = 0 then (nat_Shr.j0 k l0 a1 t402 (decide ((wrap64 (Int.tdiv a1 32)) ≥ (l0.length : Int)))) else (nat_Shr.j0 k l0 a1 t402 true))
def nat_Zeros.l0 : Nat → List Int → Int → Int → Option (Int)
  | 0, _, _, _ => none
  | k + 1, x5, x6, x7 => if x7 < x6 then (if 0 ≤ x7 then (if x7 < (x5.length : Int) then (if (rd x5 x7) = 0 then (nat_Zeros.l0 k x5 x6 (wrap64 (x7 + 1))) else ((limb_Zeros.f k (rd x5 x7)).bind fun t759 => (some (wrap64 ((wrap64 (32 * x7)) + t759))))) else (none)) else (none)) else (some 0)
def nat_Zeros.f (k : Nat) (l0 : List Int) : Option (Int) := nat_Zeros.l0 k l0 (l0.length : Int) 0
def nat_Small.l0 : Nat → List Int → Int → Int → Option (Int × Bool)
  | 0, _, _, _ => none
  | k + 1, x0, x4, x5 => if x5 ≥ 0 then (if 0 ≤ x5 then (if x5 < (x0.length : Int) then (nat_Small.l0 k x0 (Go.bits .or .u64 (IntKind.u64.wrap (x4 * 4294967296)) (rd x0 x5)) (wrap64 (x5 - 1))) else (none)) else (none)) else (some (x4, true))
def nat_Small.f (k : Nat) (l0 : List Int) : Option (Int × Bool) := (nat_Bits.f k l0).bind fun t454 => (if t454 > 63 then (some (0, false)) else (nat_Small.l0 k l0 0 (wrap64 ((l0.length : Int) - 1))))
def nat_Sum.l0 : Nat → List Int → List (List Int) → Int → Int → Option (List Int)
  | 0, _, _, _, _ => none
  | k + 1, x3, x6, x7, x8 => if x8 < x7 then (if 0 ≤ x8 then (if x8 < (x6.length : Int) then ((nat_Add.f k x3 (rdl x6 x8)).bind fun t543 => (nat_Sum.l0 k t543 x6 x7 (wrap64 (x8 + 1)))) else (none)) else (none)) else (some x3)
def nat_Sum.f (k : Nat) (l0 : List (List Int)) : Option (List Int) := nat_Sum.l0 k ([] : List Int) l0 (l0.length : Int) 0
def mul_made.f (k : Nat) (l0 : List Int) : Option (List Int) := (nat_Make.f k l0).bind fun bt517 => (some bt517.1)
mutual
def mul_Long.l0 : Nat → List Int → List Int → List Int → Int → Int → Option (List Int)
  | 0, _, _, _, _, _ => none
  | k + 1, x1, x5, x17, x18, x19 => if x19 < x18 then (if 0 ≤ x19 then (if x19 < (x17.length : Int) then (mul_Long.l1 k x1 x5 x19 (rd x17 x19) 0 x17 x18 x19 x1 (x1.length : Int) 0) else (none)) else (none)) else ((mul_made.f k x5).bind fun t524 => (some t524))
def mul_Long.l1 : Nat → List Int → List Int → Int → Int → Int → List Int → Int → Int → List Int → Int → Int → Option (List Int)
  | 0, _, _, _, _, _, _, _, _, _, _, _ => none
  | k + 1, x1, x5, x6, x7, x8, x17, x18, x19, x24, x25, x26 => if x26 < x25 then (if 0 ≤ x26 then (if x26 < (x24.length : Int) then (if 0 ≤ (wrap64 (x6 + x26)) then (if (wrap64 (x6 + x26)) < (x5.length : Int) then ((limb_Mul.f x7 (rd x24 x26) (rd x5 (wrap64 (x6 + x26))) x8).bind fun bt530 => (mul_Long.l1 k x1 (x5.set ((wrap64 (x6 + x26)) : Int).toNat bt530.1) x6 x7 bt530.2 x17 x18 x19 x24 x25 (wrap64 (x26 + 1)))) else (none)) else (none)) else (none)) else (none)) else (if 0 ≤ (wrap64 (x6 + (x1.length : Int))) then (if (wrap64 (x6 + (x1.length : Int))) < (x5.length : Int) then (mul_Long.l0 k x1 (x5.set ((wrap64 (x6 + (x1.length : Int))) : Int).toNat x8) x17 x18 (wrap64 (x19 + 1))) else (none)) else (none))
end
def mul_Long.f (k : Nat) (l0 : List Int) (l1 : List Int) : Option (List Int) := if 0 ≤ (wrap64 ((l0.length : Int) + (l1.length : Int))) then (if (wrap64 ((l0.length : Int) + (l1.length : Int)) : Int).toNat ≤ 35184372088832 then (mul_Long.l0 k l1 (List.replicate (wrap64 ((l0.length : Int) + (l1.length : Int)) : Int).toNat 0) l0 (l0.length : Int) 0) else (none)) else (none)
def mul_cut.f (k : Nat) (l0 : List Int) (a1 : Int) : Option (List Int × List Int) := if 0 ≤ (mn a1 (l0.length : Int)) then (if (mn a1 (l0.length : Int)) ≤ (l0.length : Int) then ((mul_made.f k (l0.take ((mn a1 (l0.length : Int)) : Int).toNat)).bind fun t535 => ((mul_made.f k (l0.drop ((mn a1 (l0.length : Int)) : Int).toNat)).bind fun t539 => (some (t535, t539)))) else (none)) else (none)
def mul_up.f (k : Nat) (l0 : List Int) (a1 : Int) : Option (List Int) := if 0 ≤ (wrap64 (a1 + (l0.length : Int))) then (if (wrap64 (a1 + (l0.length : Int)) : Int).toNat ≤ 35184372088832 then ((some (List.replicate (wrap64 (a1 + (l0.length : Int)) : Int).toNat 0 : List Int)).bind fun y546 => (if 0 ≤ a1 then (if a1 ≤ (y546.length : Int) then ((mul_made.f k (y546.take (a1 : Int).toNat ++ (l0.take (y546.length - (a1 : Int).toNat) ++ y546.drop ((a1 : Int).toNat + min l0.length (y546.length - (a1 : Int).toNat))))).bind fun t556 => (some t556)) else (none)) else (none))) else (none)) else (none)
def mul_Short.f : Nat → List Int → List Int → Option (List Int)
  | 0, _, _ => none
  | k + 1, l0, l1 => if (mn (l0.length : Int) (l1.length : Int)) < 4 then ((mul_Long.f k l0 l1).bind fun t559 => (some t559)) else ((mul_cut.f k l0 (wrap64 (Int.tdiv (wrap64 ((mx (l0.length : Int) (l1.length : Int)) + 1)) 2))).bind fun bt562 => ((mul_cut.f k l1 (wrap64 (Int.tdiv (wrap64 ((mx (l0.length : Int) (l1.length : Int)) + 1)) 2))).bind fun bt568 => ((mul_Short.f k bt562.1 bt568.1).bind fun t574 => ((mul_Short.f k bt562.2 bt568.2).bind fun t577 => ((nat_Add.f k bt562.1 bt562.2).bind fun t580 => ((nat_Add.f k bt568.1 bt568.2).bind fun t583 => ((mul_Short.f k t580 t583).bind fun t586 => ((nat_Sub.f k t586 t574).bind fun bt589 => ((nat_Sub.f k bt589.1 t577).bind fun bt593 => ((mul_up.f k bt593.1 (wrap64 (Int.tdiv (wrap64 ((mx (l0.length : Int) (l1.length : Int)) + 1)) 2))).bind fun t597 => ((mul_up.f k t577 (wrap64 (2 * (wrap64 (Int.tdiv (wrap64 ((mx (l0.length : Int) (l1.length : Int)) + 1)) 2))))).bind fun t600 => ((nat_Sum.f k (([t574, t597, t600] : List (List Int)))).bind fun t606 => (some t606)))))))))))))
def mul_Mul.f (k : Nat) (l0 : List Int) (l1 : List Int) : Option (List Int) := (mul_Short.f k l0 l1).bind fun t609 => (some t609)
def mul_Small.l0 : Nat → List Int → Int → List Int → Int → List Int → Int → Int → Option (List Int)
  | 0, _, _, _, _, _, _, _ => none
  | k + 1, x0, x1, x7, x8, x21, x22, x23 => if x23 < x22 then (if 0 ≤ x23 then (if x23 < (x21.length : Int) then ((limb_Mul.f (rd x21 x23) x1 x8 0).bind fun bt968 => (if x23 < (x7.length : Int) then (mul_Small.l0 k x0 x1 (x7.set (x23 : Int).toNat bt968.1) bt968.2 x21 x22 (wrap64 (x23 + 1))) else (none))) else (none)) else (none)) else (if 0 ≤ (x0.length : Int) then (if (x0.length : Int) < (x7.length : Int) then ((mul_made.f k (x7.set ((x0.length : Int) : Int).toNat x8)).bind fun t972 => (some t972)) else (none)) else (none))
def mul_Small.f (k : Nat) (l0 : List Int) (a1 : Int) (a2 : Int) : Option (List Int) := if 0 ≤ (wrap64 ((l0.length : Int) + 1)) then (if (wrap64 ((l0.length : Int) + 1) : Int).toNat ≤ 35184372088832 then ((limb_Add.f a2 0 0).bind fun bt965 => (mul_Small.l0 k l0 a1 (List.replicate (wrap64 ((l0.length : Int) + 1) : Int).toNat 0) bt965.1 l0 (l0.length : Int) 0)) else (none)) else (none)
def divide_Small.l0 : Nat → List Int → Int → List Int → Int → Int → Int → Option (List Int × Int × Int)
  | 0, _, _, _, _, _, _ => none
  | k + 1, x0, x1, x7, x8, x20, x21 => if x21 < x20 then (if 0 ≤ (wrap64 ((wrap64 ((x0.length : Int) - 1)) - x21)) then (if (wrap64 ((wrap64 ((x0.length : Int) - 1)) - x21)) < (x0.length : Int) then ((limb_Div.f x8 (rd x0 (wrap64 ((wrap64 ((x0.length : Int) - 1)) - x21))) x1).bind fun bt305 => (if (wrap64 ((wrap64 ((x0.length : Int) - 1)) - x21)) < (x7.length : Int) then (divide_Small.l0 k x0 x1 (x7.set ((wrap64 ((wrap64 ((x0.length : Int) - 1)) - x21)) : Int).toNat bt305.1) bt305.2.1 x20 (wrap64 (x21 + 1))) else (none))) else (none)) else (none)) else ((nat_Make.f k x7).bind fun bt309 => (some (bt309.1, x8, 0)))
def divide_Small.f (k : Nat) (l0 : List Int) (a1 : Int) : Option (List Int × Int × Int) := if (Int.tmod a1 4294967296) = 0 then (some (([] : List Int), 0, 3)) else (if 0 ≤ (l0.length : Int) then (if ((l0.length : Int) : Int).toNat ≤ 35184372088832 then (divide_Small.l0 k l0 a1 (List.replicate ((l0.length : Int) : Int).toNat 0) 0 (l0.length : Int) 0) else (none)) else (none))
mutual
def divide_guess.l0 : Nat → List Int → Int → List Int → Int → Int → Int → Option (Int)
  | 0, _, _, _, _, _, _ => none
  | k + 1, x0, x1, x2, x7, x9, x10 => if x9 ≥ 4294967296 then (divide_guess.j1 k x0 x1 x2 x7 x9 x10 true) else (if 0 ≤ (wrap64 (x7 - 2)) then (if (wrap64 (x7 - 2)) < (x2.length : Int) then (if 0 ≤ (wrap64 ((wrap64 (x1 + x7)) - 2)) then (if (wrap64 ((wrap64 (x1 + x7)) - 2)) < (x0.length : Int) then (divide_guess.j1 k x0 x1 x2 x7 x9 x10 (decide ((IntKind.u64.wrap (x9 * (rd x2 (wrap64 (x7 - 2))))) > (Go.bits .or .u64 (IntKind.u64.wrap (x10 * 4294967296)) (rd x0 (wrap64 ((wrap64 (x1 + x7)) - 2))))))) else (none)) else (none)) else (none)) else (none))
def divide_guess.j1 : Nat → List Int → Int → List Int → Int → Int → Int → Bool → Option (Int)
  | 0, _, _, _, _, _, _, _ => none
  | k + 1, x0, x1, x2, x7, x9, x10, x63 => if x63 = true then (if 0 ≤ (wrap64 (x7 - 1)) then (if (wrap64 (x7 - 1)) < (x2.length : Int) then (if (IntKind.u64.wrap (x10 + (rd x2 (wrap64 (x7 - 1))))) ≥ 4294967296 then (some (IntKind.u64.wrap (x9 - 1))) else (divide_guess.l0 k x0 x1 x2 x7 (IntKind.u64.wrap (x9 - 1)) (IntKind.u64.wrap (x10 + (rd x2 (wrap64 (x7 - 1))))))) else (none)) else (none)) else (some x9)
end
def divide_guess.f (k : Nat) (l0 : List Int) (a1 : Int) (l2 : List Int) : Option (Int) := if 0 ≤ (wrap64 (a1 + (l2.length : Int))) then (if (wrap64 (a1 + (l2.length : Int))) < (l0.length : Int) then (if 0 ≤ (wrap64 ((wrap64 (a1 + (l2.length : Int))) - 1)) then (if (wrap64 ((wrap64 (a1 + (l2.length : Int))) - 1)) < (l0.length : Int) then (if 0 ≤ (wrap64 ((l2.length : Int) - 1)) then (if (wrap64 ((l2.length : Int) - 1)) < (l2.length : Int) then (if (rd l2 (wrap64 ((l2.length : Int) - 1))) = 0 then (none) else (divide_guess.l0 k l0 a1 l2 (l2.length : Int) (IntKind.u64.wrap (Int.tdiv (Go.bits .or .u64 (IntKind.u64.wrap ((rd l0 (wrap64 (a1 + (l2.length : Int)))) * 4294967296)) (rd l0 (wrap64 ((wrap64 (a1 + (l2.length : Int))) - 1)))) (rd l2 (wrap64 ((l2.length : Int) - 1))))) (Int.tmod (Go.bits .or .u64 (IntKind.u64.wrap ((rd l0 (wrap64 (a1 + (l2.length : Int)))) * 4294967296)) (rd l0 (wrap64 ((wrap64 (a1 + (l2.length : Int))) - 1)))) (rd l2 (wrap64 ((l2.length : Int) - 1)))))) else (none)) else (none)) else (none)) else (none)) else (none)) else (none)
def divide_at.f (l0 : List Int) (a1 : Int) : Option (Int) := if a1 ≥ (l0.length : Int) then (some 0) else (if 0 ≤ a1 then (if a1 < (l0.length : Int) then (some (rd l0 a1)) else (none)) else (none))
def divide_take.l0 : Nat → List Int → Int → List Int → Int → Int → Int → Int → Int → Option (Bool × List Int)
  | 0, _, _, _, _, _, _, _, _ => none
  | k + 1, x0, x1, x2, x3, x9, x10, x15, x16 => if x16 < x15 then ((divide_at.f x2 x16).bind fun t420 => ((limb_Mul.f x3 t420 x9 0).bind fun bt421 => (if 0 ≤ (wrap64 (x1 + x16)) then (if (wrap64 (x1 + x16)) < (x0.length : Int) then ((limb_Sub.f (rd x0 (wrap64 (x1 + x16))) bt421.1 x10).bind fun bt424 => (divide_take.l0 k (x0.set ((wrap64 (x1 + x16)) : Int).toNat bt424.1) x1 x2 x3 bt421.2 bt424.2 x15 (wrap64 (x16 + 1)))) else (none)) else (none)))) else (some (decide (x10 > 0), x0))
def divide_take.f (k : Nat) (l0 : List Int) (a1 : Int) (l2 : List Int) (a3 : Int) : Option (Bool × List Int) := divide_take.l0 k l0 a1 l2 a3 0 0 (wrap64 ((l2.length : Int) + 1)) 0
def divide_give.l0 : Nat → List Int → Int → List Int → Int → Int → Int → Option (List Int)
  | 0, _, _, _, _, _, _ => none
  | k + 1, x0, x1, x2, x6, x10, x11 => if x11 < x10 then (if 0 ≤ (wrap64 (x1 + x11)) then (if (wrap64 (x1 + x11)) < (x0.length : Int) then ((divide_at.f x2 x11).bind fun t428 => ((limb_Add.f (rd x0 (wrap64 (x1 + x11))) t428 x6).bind fun bt429 => (divide_give.l0 k (x0.set ((wrap64 (x1 + x11)) : Int).toNat bt429.1) x1 x2 bt429.2 x10 (wrap64 (x11 + 1))))) else (none)) else (none)) else (some x0)
def divide_give.f (k : Nat) (l0 : List Int) (a1 : Int) (l2 : List Int) : Option (List Int) := divide_give.l0 k l0 a1 l2 0 (wrap64 ((l2.length : Int) + 1)) 0
def divide_knuth.l0 : Nat → Int → List Int → List Int → List Int → Int → Option (List Int × List Int)
  | 0, _, _, _, _, _ => none
  | k + 1, x6, x7, x9, x12, x13 => if x13 ≥ 0 then ((divide_guess.f k x9 x13 x7).bind fun t463 => (if 0 ≤ x13 then (if x13 < (x12.length : Int) then ((some (x12.set (x13 : Int).toNat t463 : List Int)).bind fun y464 => ((divide_take.f k x9 x13 x7 (rd y464 x13)).bind fun bt466 => (if bt466.1 = true then ((divide_give.f k bt466.2 x13 x7).bind fun t470 => (divide_knuth.l0 k x6 x7 t470 (y464.set (x13 : Int).toNat (IntKind.u64.wrap ((rd y464 x13) - 1))) (wrap64 (x13 - 1)))) else (divide_knuth.l0 k x6 x7 bt466.2 y464 (wrap64 (x13 - 1)))))) else (none)) else (none))) else ((nat_Make.f k x12).bind fun bt451 => ((nat_Make.f k x9).bind fun bt455 => ((nat_Shr.f k bt455.1 x6).bind fun bt459 => (some (bt451.1, bt459.1)))))
def divide_knuth.f (k : Nat) (l0 : List Int) (l1 : List Int) : Option (List Int × List Int) := if 0 ≤ (wrap64 ((l1.length : Int) - 1)) then (if (wrap64 ((l1.length : Int) - 1)) < (l1.length : Int) then ((limb_Bits.f k (rd l1 (wrap64 ((l1.length : Int) - 1)))).bind fun t433 => ((nat_Shl.f k l1 (wrap64 (32 - t433))).bind fun bt434 => (if 0 ≤ (wrap64 ((l0.length : Int) + 1)) then (if (wrap64 ((l0.length : Int) + 1) : Int).toNat ≤ 35184372088832 then ((some (List.replicate (wrap64 ((l0.length : Int) + 1) : Int).toNat 0 : List Int)).bind fun y438 => ((nat_Shl.f k l0 (wrap64 (32 - t433))).bind fun bt441 => (if 0 ≤ (wrap64 ((wrap64 ((l0.length : Int) - (l1.length : Int))) + 1)) then (if (wrap64 ((wrap64 ((l0.length : Int) - (l1.length : Int))) + 1) : Int).toNat ≤ 35184372088832 then (divide_knuth.l0 k (wrap64 (32 - t433)) bt434.1 (y438.take 0 ++ (bt441.1.take (y438.length - 0) ++ y438.drop (0 + min bt441.1.length (y438.length - 0)))) (List.replicate (wrap64 ((wrap64 ((l0.length : Int) - (l1.length : Int))) + 1) : Int).toNat 0) (wrap64 ((l0.length : Int) - (l1.length : Int)))) else (none)) else (none)))) else (none)) else (none)))) else (none)) else (none)
def divide_Div.j0 : Nat → List Int → List Int → Bool → Option (List Int × List Int × Int)
  | 0, _, _, _ => none
  | k + 1, x0, x1, x18 => if x18 = true then (some (([] : List Int), ([] : List Int), 2)) else ((nat_Cmp.f k x0 x1).bind fun t473 => (if t473 < 0 then ((nat_Make.f k x0).bind fun bt474 => (some (([] : List Int), bt474.1, bt474.2))) else (if (x1.length : Int) = 1 then (if 0 < (x1.length : Int) then ((divide_Small.f k x0 (rd x1 0)).bind fun bt479 => ((nat_Of.f k bt479.2.1).bind fun t484 => (some (bt479.1, t484, bt479.2.2)))) else (none)) else ((divide_knuth.f k x0 x1).bind fun bt487 => (some (bt487.1, bt487.2, 0))))))
def divide_Div.f (k : Nat) (l0 : List Int) (l1 : List Int) : Option (List Int × List Int × Int) := if (l1.length : Int) = 0 then (some (([] : List Int), ([] : List Int), 3)) else ((nat_May.f k l0).bind fun t471 => (if t471 = true then ((nat_May.f k l1).bind fun t472 => (divide_Div.j0 k l0 l1 (!t472))) else (divide_Div.j0 k l0 l1 true)))
def divide_Mod.f (k : Nat) (l0 : List Int) (l1 : List Int) : Option (List Int × Int) := (divide_Div.f k l0 l1).bind fun bt735 => (some (bt735.2.1, bt735.2.2))
def divide_Exact.f (k : Nat) (l0 : List Int) (l1 : List Int) : Option (List Int × Int) := (divide_Div.f k l0 l1).bind fun bt855 => (if bt855.2.2 = 0 then (if (bt855.2.1.length : Int) > 0 then (some (([] : List Int), 4)) else (some (bt855.1, bt855.2.2))) else (some (([] : List Int), bt855.2.2)))
def gcd_Euclid.l0 : Nat → List Int → List Int → Option (List Int)
  | 0, _, _ => none
  | k + 1, x5, x7 => if (x7.length : Int) > 0 then ((divide_Mod.f k x5 x7).bind fun bt750 => (gcd_Euclid.l0 k x7 bt750.1)) else (some x5)
def gcd_Euclid.f (k : Nat) (l0 : List Int) (l1 : List Int) : Option (List Int) := (nat_Make.f k l0).bind fun bt742 => ((nat_Make.f k l1).bind fun bt746 => (gcd_Euclid.l0 k bt742.1 bt746.1))
def gcd_Coprime.f (k : Nat) (l0 : List Int) (l1 : List Int) : Option (Bool) := (gcd_Euclid.f k l0 l1).bind fun t794 => ((nat_Of.f k 1).bind fun t797 => ((nat_Cmp.f k t794 t797).bind fun t800 => (some (t800 == 0))))
def whole_Made.f (k : Nat) (a0 : Bool) (l1 : List Int) : Option (Bool × List Int) := (nat_Make.f k l1).bind fun bt119 => (if a0 = true then (some (decide ((bt119.1.length : Int) > 0), bt119.1)) else (some (false, bt119.1)))
def whole_Of.f (k : Nat) (a0 : Int) : Option (Bool × List Int) := if a0 < 0 then ((nat_Of.f k (IntKind.u64.wrap (wrap64 (-(wrap64 (a0 + 1)))))).bind fun t143 => ((nat_Of.f k 1).bind fun t146 => ((nat_Add.f k t143 t146).bind fun t149 => ((whole_Made.f k true t149).bind fun bt152 => (some (bt152.1, bt152.2)))))) else ((nat_Of.f k (IntKind.u64.wrap (a0))).bind fun t156 => ((whole_Made.f k false t156).bind fun bt159 => (some (bt159.1, bt159.2))))
def whole_Neg.f (k : Nat) (a0_0 : Bool) (l0_1 : List Int) : Option (Bool × List Int) := (whole_Made.f k (!a0_0) l0_1).bind fun bt1264 => (some (bt1264.1, bt1264.2))
def whole_Sign.f (a0_0 : Bool) (l0_1 : List Int) : Option (Int) := if (l0_1.length : Int) = 0 then (some 0) else (if a0_0 = true then (some (-1)) else (some 1))
def whole_Cmp.f (k : Nat) (a0_0 : Bool) (l0_1 : List Int) (a1_0 : Bool) (l1_1 : List Int) : Option (Int) := (whole_Sign.f a0_0 l0_1).bind fun t972 => ((whole_Sign.f a1_0 l1_1).bind fun t973 => (if t972 < t973 then (some (-1)) else (if t972 > t973 then (some 1) else ((nat_Cmp.f k l0_1 l1_1).bind fun t974 => (some (wrap64 (t972 * t974)))))))
def whole_Add.f (k : Nat) (a0_0 : Bool) (l0_1 : List Int) (a1_0 : Bool) (l1_1 : List Int) : Option (Bool × List Int) := if (a0_0 == a1_0) = true then ((nat_Add.f k l0_1 l1_1).bind fun t228 => ((whole_Made.f k a0_0 t228).bind fun bt231 => (some (bt231.1, bt231.2)))) else ((nat_Sub.f k l0_1 l1_1).bind fun bt235 => (if bt235.2 = 0 then ((whole_Made.f k a0_0 bt235.1).bind fun bt239 => (some (bt239.1, bt239.2))) else ((nat_Sub.f k l1_1 l0_1).bind fun bt243 => ((whole_Made.f k a1_0 bt243.1).bind fun bt247 => (some (bt247.1, bt247.2))))))
def whole_Mul.f (k : Nat) (a0_0 : Bool) (l0_1 : List Int) (a1_0 : Bool) (l1_1 : List Int) : Option (Bool × List Int) := (mul_Mul.f k l0_1 l1_1).bind fun t349 => ((whole_Made.f k (a0_0 != a1_0) t349).bind fun bt352 => (some (bt352.1, bt352.2)))
def triviumref02_Trim.l0 : Nat → List Int → Int → Option (List Int)
  | 0, _, _ => none
  | k + 1, x0, x3 => if x3 > 0 then (if 0 ≤ (wrap64 (x3 - 1)) then (if (wrap64 (x3 - 1)) < (x0.length : Int) then (if (rd x0 (wrap64 (x3 - 1))) = 0 then (triviumref02_Trim.l0 k x0 (wrap64 (x3 - 1))) else ((some (([] : List Int) : List Int)).bind fun y314 => (if 0 ≤ x3 then (if x3 ≤ (x0.length : Int) then (if y314.length + (x0.take (x3 : Int).toNat).length < 17592186044416 then (some (y314 ++ (x0.take (x3 : Int).toNat))) else (none)) else (none)) else (none)))) else (none)) else (none)) else ((some (([] : List Int) : List Int)).bind fun y321 => (if 0 ≤ x3 then (if x3 ≤ (x0.length : Int) then (if y321.length + (x0.take (x3 : Int).toNat).length < 17592186044416 then (some (y321 ++ (x0.take (x3 : Int).toNat))) else (none)) else (none)) else (none)))
def triviumref02_Trim.f (k : Nat) (l0 : List Int) : Option (List Int) := triviumref02_Trim.l0 k l0 (l0.length : Int)
def triviumref02_Clean.l1 : Nat → List Int → Option (List Int)
  | 0, _ => none
  | k + 1, x5 => if (x5.length : Int) > 0 then (if 0 ≤ (wrap64 ((x5.length : Int) - 1)) then (if (wrap64 ((x5.length : Int) - 1)) < (x5.length : Int) then (if (rd x5 (wrap64 ((x5.length : Int) - 1))) = 0 then (if (wrap64 ((x5.length : Int) - 1)) ≤ (x5.length : Int) then (triviumref02_Clean.l1 k (x5.take ((wrap64 ((x5.length : Int) - 1)) : Int).toNat)) else (none)) else (some x5)) else (none)) else (none)) else (some x5)
def triviumref02_Clean.j1 : Nat → List Int → Option (List Int)
  | 0, _ => none
  | k + 1, x5 => triviumref02_Clean.l1 k x5
def triviumref02_Clean.l0 : Nat → List Int → Int → List Int → Int → Option (List Int)
  | 0, _, _, _, _ => none
  | k + 1, x0, x1, x5, x6 => if x6 < (x0.length : Int) then (if x6 < x1 then (if 0 ≤ x6 then (if x5.length < 17592186044416 then (triviumref02_Clean.l0 k x0 x1 (x5 ++ [Int.tmod (rd x0 x6) 4294967296]) (wrap64 (x6 + 1))) else (none)) else (none)) else (triviumref02_Clean.j1 k x5)) else (triviumref02_Clean.j1 k x5)
def triviumref02_Clean.f (k : Nat) (l0 : List Int) (a1 : Int) : Option (List Int) := triviumref02_Clean.l0 k l0 a1 (([] : List Int)) 0
def triviumref02_Same.l0 : Nat → List Int → List Int → Int → Option (Bool)
  | 0, _, _, _ => none
  | k + 1, x0, x1, x5 => if x5 < (x0.length : Int) then (if 0 ≤ x5 then (if x5 < (x1.length : Int) then (if (rd x0 x5) = (rd x1 x5) then (triviumref02_Same.l0 k x0 x1 (wrap64 (x5 + 1))) else (some false)) else (none)) else (none)) else (some true)
def triviumref02_Same.f (k : Nat) (l0 : List Int) (l1 : List Int) : Option (Bool) := if (l0.length : Int) = (l1.length : Int) then (triviumref02_Same.l0 k l0 l1 0) else (some false)
def triviumref02_Cmp.l0 : Nat → List Int → List Int → Int → Option (Int)
  | 0, _, _, _ => none
  | k + 1, x0, x1, x5 => if x5 ≥ 0 then (if 0 ≤ x5 then (if x5 < (x0.length : Int) then (if x5 < (x1.length : Int) then (if (rd x0 x5) < (rd x1 x5) then (some (-1)) else (if (rd x0 x5) > (rd x1 x5) then (some 1) else (triviumref02_Cmp.l0 k x0 x1 (wrap64 (x5 - 1))))) else (none)) else (none)) else (none)) else (some 0)
def triviumref02_Cmp.f (k : Nat) (l0 : List Int) (l1 : List Int) : Option (Int) := if (l0.length : Int) = (l1.length : Int) then (triviumref02_Cmp.l0 k l0 l1 (wrap64 ((l0.length : Int) - 1))) else (if (l0.length : Int) < (l1.length : Int) then (some (-1)) else (some 1))
def triviumref02_MulAdd.l1 : Nat → Int → List Int → Option (List Int)
  | 0, _, _ => none
  | k + 1, x2, x7 => if x2 > 0 then (if x7.length < 17592186044416 then (triviumref02_MulAdd.l1 k (wrap64 (Int.tdiv x2 10000)) (x7 ++ [Int.tmod x2 10000])) else (none)) else ((triviumref02_Trim.f k x7).bind fun t356 => (some t356))
def triviumref02_MulAdd.l0 : Nat → List Int → Int → Int → List Int → Int → Option (List Int)
  | 0, _, _, _, _, _ => none
  | k + 1, x0, x1, x2, x7, x8 => if x8 < (x0.length : Int) then (if 0 ≤ x8 then (if x7.length < 17592186044416 then (triviumref02_MulAdd.l0 k x0 x1 (wrap64 (Int.tdiv (wrap64 (x2 + (wrap64 ((rd x0 x8) * x1)))) 10000)) (x7 ++ [Int.tmod (wrap64 (x2 + (wrap64 ((rd x0 x8) * x1)))) 10000]) (wrap64 (x8 + 1))) else (none)) else (none)) else (triviumref02_MulAdd.l1 k x2 x7)
def triviumref02_MulAdd.f (k : Nat) (l0 : List Int) (a1 : Int) (a2 : Int) : Option (List Int) := triviumref02_MulAdd.l0 k l0 a1 a2 (([] : List Int)) 0
def triviumref02_DivSmall.l0 : Nat → List Int → Int → List Int → Int → Int → Option (List Int × Int)
  | 0, _, _, _, _, _ => none
  | k + 1, x0, x1, x6, x7, x8 => if x8 ≥ 0 then (if 0 ≤ x8 then (if x8 < (x0.length : Int) then (if x1 = 0 then (none) else (if x8 < (x6.length : Int) then (triviumref02_DivSmall.l0 k x0 x1 (x6.set (x8 : Int).toNat (wrap64 (Int.tdiv (wrap64 ((wrap64 (10000 * x7)) + (rd x0 x8))) x1))) (Int.tmod (wrap64 ((wrap64 (10000 * x7)) + (rd x0 x8))) x1) (wrap64 (x8 - 1))) else (none))) else (none)) else (none)) else ((triviumref02_Trim.f k x6).bind fun t333 => (some (t333, x7)))
def triviumref02_DivSmall.f (k : Nat) (l0 : List Int) (a1 : Int) : Option (List Int × Int) := if 0 ≤ (l0.length : Int) then (if ((l0.length : Int) : Int).toNat ≤ 35184372088832 then (triviumref02_DivSmall.l0 k l0 a1 (List.replicate ((l0.length : Int) : Int).toNat 0) 0 (wrap64 ((l0.length : Int) - 1))) else (none)) else (none)
def triviumref02_Back.l0 : Nat → List Int → List Int → Option (List Int)
  | 0, _, _ => none
  | k + 1, x0, x3 => if (x0.length : Int) > 0 then ((triviumref02_DivSmall.f k x0 4294967296).bind fun bt339 => (if x3.length < 17592186044416 then (triviumref02_Back.l0 k bt339.1 (x3 ++ [IntKind.u64.wrap (bt339.2)])) else (none))) else (some x3)
def triviumref02_Back.f (k : Nat) (l0 : List Int) : Option (List Int) := triviumref02_Back.l0 k l0 (([] : List Int))
def triviumref02_Of.l0 : Nat → List Int → List Int → Int → Option (List Int)
  | 0, _, _, _ => none
  | k + 1, x0, x3, x4 => if x4 ≥ 0 then (if 0 ≤ x4 then (if x4 < (x0.length : Int) then ((triviumref02_MulAdd.f k x3 4294967296 (wrap64 (Int.tmod (rd x0 x4) 4294967296))).bind fun t363 => (triviumref02_Of.l0 k x0 t363 (wrap64 (x4 - 1)))) else (none)) else (none)) else (some x3)
def triviumref02_Of.f (k : Nat) (l0 : List Int) : Option (List Int) := triviumref02_Of.l0 k l0 (([] : List Int)) (wrap64 ((l0.length : Int) - 1))
def triviumref02_Add.l0 : Nat → List Int → List Int → List Int → Int → Int → Option (List Int)
  | 0, _, _, _, _, _ => none
  | k + 1, x0, x1, x5, x6, x7 => if x7 < (mx (x0.length : Int) (x1.length : Int)) then (if x7 < (x0.length : Int) then (if 0 ≤ x7 then (if x7 < (x1.length : Int) then (if x5.length < 17592186044416 then (triviumref02_Add.l0 k x0 x1 (x5 ++ [Int.tmod (wrap64 ((wrap64 (x6 + (rd x0 x7))) + (rd x1 x7))) 10000]) (wrap64 (Int.tdiv (wrap64 ((wrap64 (x6 + (rd x0 x7))) + (rd x1 x7))) 10000)) (wrap64 (x7 + 1))) else (none)) else (if x5.length < 17592186044416 then (triviumref02_Add.l0 k x0 x1 (x5 ++ [Int.tmod (wrap64 (x6 + (rd x0 x7))) 10000]) (wrap64 (Int.tdiv (wrap64 (x6 + (rd x0 x7))) 10000)) (wrap64 (x7 + 1))) else (none))) else (none)) else (if x7 < (x1.length : Int) then (if 0 ≤ x7 then (if x5.length < 17592186044416 then (triviumref02_Add.l0 k x0 x1 (x5 ++ [Int.tmod (wrap64 (x6 + (rd x1 x7))) 10000]) (wrap64 (Int.tdiv (wrap64 (x6 + (rd x1 x7))) 10000)) (wrap64 (x7 + 1))) else (none)) else (none)) else (if x5.length < 17592186044416 then (triviumref02_Add.l0 k x0 x1 (x5 ++ [Int.tmod x6 10000]) (wrap64 (Int.tdiv x6 10000)) (wrap64 (x7 + 1))) else (none)))) else (if x5.length < 17592186044416 then ((triviumref02_Trim.f k (x5 ++ [x6])).bind fun t311 => (some t311)) else (none))
def triviumref02_Add.f (k : Nat) (l0 : List Int) (l1 : List Int) : Option (List Int) := triviumref02_Add.l0 k l0 l1 (([] : List Int)) 0 0
def triviumref02_Sub.l0 : Nat → List Int → List Int → List Int → Int → Int → Option (List Int)
  | 0, _, _, _, _, _ => none
  | k + 1, x0, x1, x5, x6, x7 => if x7 < (x0.length : Int) then (if 0 ≤ x7 then (if x7 < (x1.length : Int) then (if (wrap64 ((wrap64 ((rd x0 x7) - x6)) - (rd x1 x7))) < 0 then (if x5.length < 17592186044416 then (triviumref02_Sub.l0 k x0 x1 (x5 ++ [wrap64 ((wrap64 ((wrap64 ((rd x0 x7) - x6)) - (rd x1 x7))) + 10000)]) 1 (wrap64 (x7 + 1))) else (none)) else (if x5.length < 17592186044416 then (triviumref02_Sub.l0 k x0 x1 (x5 ++ [wrap64 ((wrap64 ((rd x0 x7) - x6)) - (rd x1 x7))]) 0 (wrap64 (x7 + 1))) else (none))) else (if (wrap64 ((rd x0 x7) - x6)) < 0 then (if x5.length < 17592186044416 then (triviumref02_Sub.l0 k x0 x1 (x5 ++ [wrap64 ((wrap64 ((rd x0 x7) - x6)) + 10000)]) 1 (wrap64 (x7 + 1))) else (none)) else (if x5.length < 17592186044416 then (triviumref02_Sub.l0 k x0 x1 (x5 ++ [wrap64 ((rd x0 x7) - x6)]) 0 (wrap64 (x7 + 1))) else (none)))) else (none)) else ((triviumref02_Trim.f k x5).bind fun t670 => (some t670))
def triviumref02_Sub.f (k : Nat) (l0 : List Int) (l1 : List Int) : Option (List Int) := triviumref02_Sub.l0 k l0 l1 (([] : List Int)) 0 0
mutual
def triviumref02_Mul.l0 : Nat → List Int → List Int → List Int → Int → Option (List Int)
  | 0, _, _, _, _ => none
  | k + 1, x0, x1, x5, x6 => if x6 < (x0.length : Int) then (triviumref02_Mul.l1 k x0 x1 x5 x6 0 0) else ((triviumref02_Trim.f k x5).bind fun t603 => (some t603))
def triviumref02_Mul.l1 : Nat → List Int → List Int → List Int → Int → Int → Int → Option (List Int)
  | 0, _, _, _, _, _, _ => none
  | k + 1, x0, x1, x5, x6, x7, x8 => if x8 < (x1.length : Int) then (if 0 ≤ (wrap64 (x6 + x8)) then (if (wrap64 (x6 + x8)) < (x5.length : Int) then (if 0 ≤ x6 then (if x6 < (x0.length : Int) then (if 0 ≤ x8 then (triviumref02_Mul.l1 k x0 x1 (x5.set ((wrap64 (x6 + x8)) : Int).toNat (Int.tmod (wrap64 ((wrap64 (x7 + (rd x5 (wrap64 (x6 + x8))))) + (wrap64 ((rd x0 x6) * (rd x1 x8))))) 10000)) x6 (wrap64 (Int.tdiv (wrap64 ((wrap64 (x7 + (rd x5 (wrap64 (x6 + x8))))) + (wrap64 ((rd x0 x6) * (rd x1 x8))))) 10000)) (wrap64 (x8 + 1))) else (none)) else (none)) else (none)) else (none)) else (none)) else (triviumref02_Mul.l2 k x0 x1 x5 x6 x7 (wrap64 (x6 + (x1.length : Int))))
def triviumref02_Mul.l2 : Nat → List Int → List Int → List Int → Int → Int → Int → Option (List Int)
  | 0, _, _, _, _, _, _ => none
  | k + 1, x0, x1, x5, x6, x7, x9 => if x7 > 0 then (if 0 ≤ x9 then (if x9 < (x5.length : Int) then (triviumref02_Mul.l2 k x0 x1 (x5.set (x9 : Int).toNat (Int.tmod (wrap64 (x7 + (rd x5 x9))) 10000)) x6 (wrap64 (Int.tdiv (wrap64 (x7 + (rd x5 x9))) 10000)) (wrap64 (x9 + 1))) else (none)) else (none)) else (triviumref02_Mul.l0 k x0 x1 x5 (wrap64 (x6 + 1)))
end
def triviumref02_Mul.f (k : Nat) (l0 : List Int) (l1 : List Int) : Option (List Int) := if 0 ≤ (wrap64 ((wrap64 ((l0.length : Int) + (l1.length : Int))) + 1)) then (if (wrap64 ((wrap64 ((l0.length : Int) + (l1.length : Int))) + 1) : Int).toNat ≤ 35184372088832 then (triviumref02_Mul.l0 k l0 l1 (List.replicate (wrap64 ((wrap64 ((l0.length : Int) + (l1.length : Int))) + 1) : Int).toNat 0) 0) else (none)) else (none)
mutual
def triviumref02_Div.l0 : Nat → List Int → List Int → List Int → List Int → Int → Option (List Int × List Int)
  | 0, _, _, _, _, _ => none
  | k + 1, x0, x1, x6, x7, x8 => if x8 ≥ 0 then (if 0 ≤ x8 then (if x8 < (x0.length : Int) then ((some (([rd x0 x8] : List Int) : List Int)).bind fun y697 => (if y697.length + x7.length < 17592186044416 then ((triviumref02_Trim.f k (y697 ++ x7)).bind fun t703 => (triviumref02_Div.l1 k x0 x1 x6 t703 x8 0 10000)) else (none))) else (none)) else (none)) else ((triviumref02_Trim.f k x6).bind fun t693 => (some (t693, x7)))
def triviumref02_Div.l1 : Nat → List Int → List Int → List Int → List Int → Int → Int → Int → Option (List Int × List Int)
  | 0, _, _, _, _, _, _, _ => none
  | k + 1, x0, x1, x6, x7, x8, x9, x10 => if (wrap64 (x10 - x9)) > 1 then ((triviumref02_MulAdd.f k x1 (wrap64 (Int.tdiv (wrap64 (x9 + x10)) 2)) 0).bind fun t713 => ((triviumref02_Cmp.f k t713 x7).bind fun t716 => (if t716 ≤ 0 then (triviumref02_Div.l1 k x0 x1 x6 x7 x8 (wrap64 (Int.tdiv (wrap64 (x9 + x10)) 2)) x10) else (triviumref02_Div.l1 k x0 x1 x6 x7 x8 x9 (wrap64 (Int.tdiv (wrap64 (x9 + x10)) 2)))))) else (if 0 ≤ x8 then (if x8 < (x6.length : Int) then ((triviumref02_MulAdd.f k x1 x9 0).bind fun t707 => ((triviumref02_Sub.f k x7 t707).bind fun t710 => (triviumref02_Div.l0 k x0 x1 (x6.set (x8 : Int).toNat x9) t710 (wrap64 (x8 - 1))))) else (none)) else (none))
end
def triviumref02_Div.f (k : Nat) (l0 : List Int) (l1 : List Int) : Option (List Int × List Int) := if 0 ≤ (l0.length : Int) then (if ((l0.length : Int) : Int).toNat ≤ 35184372088832 then (triviumref02_Div.l0 k l0 l1 (List.replicate ((l0.length : Int) : Int).toNat 0) (([] : List Int)) (wrap64 ((l0.length : Int) - 1))) else (none)) else (none)
def triviumref02_Gcd.l0 : Nat → List Int → List Int → Option (List Int)
  | 0, _, _ => none
  | k + 1, x0, x1 => if (x1.length : Int) > 0 then ((triviumref02_Div.f k x0 x1).bind fun bt717 => (triviumref02_Gcd.l0 k x1 bt717.2)) else (some x0)
def triviumref02_Gcd.f (k : Nat) (l0 : List Int) (l1 : List Int) : Option (List Int) := triviumref02_Gcd.l0 k l0 l1
def triviumref02_Num.f (k : Nat) (a0 : Int) : Option (List Int) := (triviumref02_MulAdd.f k (([] : List Int)) 1 a0).bind fun t459 => (some t459)
def triviumref02_Power.l1 : Nat → Int → List Int → Option (List Int)
  | 0, _, _ => none
  | k + 1, x0, x3 => if x0 > 0 then ((triviumref02_MulAdd.f k x3 2 0).bind fun t468 => (triviumref02_Power.l1 k (wrap64 (x0 - 1)) t468)) else (some x3)
def triviumref02_Power.l0 : Nat → Int → List Int → Option (List Int)
  | 0, _, _ => none
  | k + 1, x0, x3 => if x0 ≥ 16 then ((triviumref02_MulAdd.f k x3 65536 0).bind fun t465 => (triviumref02_Power.l0 k (wrap64 (x0 - 16)) t465)) else (triviumref02_Power.l1 k x0 x3)
def triviumref02_Power.f (k : Nat) (a0 : Int) : Option (List Int) := (triviumref02_Num.f k 1).bind fun t462 => (triviumref02_Power.l0 k a0 t462)
def triviumref02_Bits.l0 : Nat → List Int → Int → Option (Int)
  | 0, _, _ => none
  | k + 1, x0, x3 => if (x0.length : Int) > 0 then ((triviumref02_DivSmall.f k x0 2).bind fun bt560 => (triviumref02_Bits.l0 k bt560.1 (wrap64 (x3 + 1)))) else (some x3)
def triviumref02_Bits.f (k : Nat) (l0 : List Int) : Option (Int) := triviumref02_Bits.l0 k l0 0
def triviumref02_May.l0 : Nat → List Int → Int → Option (Bool)
  | 0, _, _ => none
  | k + 1, x0, x3 => if x3 < (x0.length : Int) then (if 0 ≤ x3 then (if (rd x0 x3) ≥ 4294967296 then (some false) else (triviumref02_May.l0 k x0 (wrap64 (x3 + 1)))) else (none)) else (if (x0.length : Int) = 0 then (some true) else (if 0 ≤ (wrap64 ((x0.length : Int) - 1)) then (if (wrap64 ((x0.length : Int) - 1)) < (x0.length : Int) then (some ((rd x0 (wrap64 ((x0.length : Int) - 1))) != 0)) else (none)) else (none)))
def triviumref02_May.f (k : Nat) (l0 : List Int) : Option (Bool) := triviumref02_May.l0 k l0 0
def triviumref02_Zeros.l0 : Nat → List Int → Int → Option (Int)
  | 0, _, _ => none
  | k + 1, x0, x3 => if (x0.length : Int) > 0 then ((triviumref02_DivSmall.f k x0 2).bind fun bt566 => (if bt566.2 = 1 then (some x3) else (triviumref02_Zeros.l0 k bt566.1 (wrap64 (x3 + 1))))) else (some 0)
def triviumref02_Zeros.f (k : Nat) (l0 : List Int) : Option (Int) := triviumref02_Zeros.l0 k l0 0
def rat_low.f (k : Nat) (a0_0 : Bool) (l0_1 : List Int) (l1 : List Int) : Option (Bool × List Int × List Int) := (gcd_Euclid.f k l0_1 l1).bind fun t506 => ((divide_Exact.f k l0_1 t506).bind fun bt509 => ((divide_Exact.f k l1 t506).bind fun bt513 => ((whole_Made.f k a0_0 bt509.1).bind fun bt517 => (some (bt517.1, bt517.2, bt513.1)))))
def rat_Make.f (k : Nat) (a0_0 : Bool) (l0_1 : List Int) (a1_0 : Bool) (l1_1 : List Int) : Option (Bool × List Int × List Int × Int) := (whole_Sign.f a1_0 l1_1).bind fun t524 => (if t524 = 0 then (some (false, ([] : List Int), ([] : List Int), 3)) else ((whole_Made.f k (a0_0 != a1_0) l0_1).bind fun bt525 => ((rat_low.f k bt525.1 bt525.2 l1_1).bind fun bt529 => (some (bt529.1, bt529.2.1, bt529.2.2, 0)))))
def rat_one.f (k : Nat)  : Option (List Int) := (nat_Of.f k 1).bind fun t163 => (some t163)
def rat_Of.f (k : Nat) (a0 : Int) : Option (Bool × List Int × List Int) := (whole_Of.f k a0).bind fun bt167 => ((rat_one.f k).bind fun t171 => (some (bt167.1, bt167.2, t171)))
def rat_up.f (k : Nat) (a0_0 : Bool) (l0_1 : List Int) (l0_2 : List Int) : Option (Bool × List Int) := (whole_Made.f k false l0_2).bind fun bt358 => (some (bt358.1, bt358.2))
def rat_Same.f (k : Nat) (a0_0 : Bool) (l0_1 : List Int) (l0_2 : List Int) (a1_0 : Bool) (l1_1 : List Int) (l1_2 : List Int) : Option (Bool) := if (a0_0 == a1_0) = true then ((nat_Cmp.f k l0_1 l1_1).bind fun t203 => (if t203 = 0 then ((nat_Cmp.f k l0_2 l1_2).bind fun t204 => (some (t204 == 0))) else (some false))) else (some false)
def rat_Sign.f (a0_0 : Bool) (l0_1 : List Int) (l0_2 : List Int) : Option (Int) := (whole_Sign.f a0_0 l0_1).bind fun t207 => (some t207)
def modp_right.f (a0 : Int) : Option (Bool) := if a0 ≥ 2 then (some (decide (a0 < 4294967296))) else (some false)
def modp_Add.f (a0 : Int) (a1 : Int) (a2 : Int) : Option (Int) := (modp_right.f a2).bind fun t524 => (if t524 = true then (if a2 = 0 then (none) else (some (Int.tmod (IntKind.u64.wrap ((Int.tmod a0 a2) + (Int.tmod a1 a2))) a2))) else (some 0))
def modp_Sub.f (a0 : Int) (a1 : Int) (a2 : Int) : Option (Int) := (modp_right.f a2).bind fun t411 => (if t411 = true then (if a2 = 0 then (none) else (some (Int.tmod (IntKind.u64.wrap ((IntKind.u64.wrap ((Int.tmod a0 a2) + a2)) - (Int.tmod a1 a2))) a2))) else (some 0))
def modp_Mul.f (a0 : Int) (a1 : Int) (a2 : Int) : Option (Int) := (modp_right.f a2).bind fun t410 => (if t410 = true then (if a2 = 0 then (none) else (some (Int.tmod (IntKind.u64.wrap ((Int.tmod a0 a2) * (Int.tmod a1 a2))) a2))) else (some 0))
def modp_Pow.l0 : Nat → Int → Int → Int → Int → Option (Int)
  | 0, _, _, _, _ => none
  | k + 1, x0, x1, x2, x7 => if x1 > 0 then (if (Go.bits .and .u64 x1 1) = 1 then (if x2 = 0 then (none) else (modp_Pow.l0 k (Int.tmod (IntKind.u64.wrap (x0 * x0)) x2) (x1 / 2) x2 (Int.tmod (IntKind.u64.wrap (x7 * x0)) x2))) else (if x2 = 0 then (none) else (modp_Pow.l0 k (Int.tmod (IntKind.u64.wrap (x0 * x0)) x2) (x1 / 2) x2 x7))) else (some x7)
def modp_Pow.f (k : Nat) (a0 : Int) (a1 : Int) (a2 : Int) : Option (Int) := (modp_right.f a2).bind fun t407 => (if t407 = true then (if a2 = 0 then (none) else (modp_Pow.l0 k (Int.tmod a0 a2) a1 a2 1)) else (some 0))
def modp_Inv.l0 : Nat → Int → Int → Int → Int → Int → Option (Int × Int)
  | 0, _, _, _, _, _ => none
  | k + 1, x1, x6, x7, x8, x9 => if x7 = 0 then (if x6 = 1 then (some (x8, 0)) else (some (0, 3))) else ((modp_Mul.f (IntKind.u64.wrap (Int.tdiv x6 x7)) x9 x1).bind fun t413 => ((modp_Sub.f x8 t413 x1).bind fun t414 => (modp_Inv.l0 k x1 x7 (Int.tmod x6 x7) x9 t414)))
def modp_Inv.f (k : Nat) (a0 : Int) (a1 : Int) : Option (Int × Int) := (modp_right.f a1).bind fun t412 => (if t412 = true then (if a1 = 0 then (none) else (modp_Inv.l0 k a1 (Int.tmod a0 a1) a1 1 0)) else (some (0, 2)))
def modp_strong.l1 : Nat → Int → Int → Int → Int → Option (Bool)
  | 0, _, _, _, _ => none
  | k + 1, x0, x7, x30, x31 => if x31 < x30 then (if x0 = 0 then (none) else (if (Int.tmod (IntKind.u64.wrap (x7 * x7)) x0) = (IntKind.u64.wrap (x0 - 1)) then (some true) else (modp_strong.l1 k x0 (Int.tmod (IntKind.u64.wrap (x7 * x7)) x0) x30 (wrap64 (x31 + 1))))) else (some false)
def modp_strong.j1 : Nat → Int → Int → Int → Bool → Option (Bool)
  | 0, _, _, _, _ => none
  | k + 1, x0, x6, x7, x28 => if x28 = true then (some true) else (modp_strong.l1 k x0 x7 (wrap64 (x6 - 1)) 0)
def modp_strong.l0 : Nat → Int → Int → Int → Int → Option (Bool)
  | 0, _, _, _, _ => none
  | k + 1, x0, x1, x5, x6 => if (Int.tmod x5 2) = 0 then (modp_strong.l0 k x0 x1 (IntKind.u64.wrap (Int.tdiv x5 2)) (wrap64 (x6 + 1))) else ((modp_Pow.f k x1 x5 x0).bind fun t408 => (if t408 = 1 then (modp_strong.j1 k x0 x6 t408 true) else (modp_strong.j1 k x0 x6 t408 (t408 == (IntKind.u64.wrap (x0 - 1))))))
def modp_strong.f (k : Nat) (a0 : Int) (a1 : Int) : Option (Bool) := modp_strong.l0 k a0 a1 (IntKind.u64.wrap (a0 - 1)) 0
def modp_Prime.l1 : Nat → Int → Nat → Option Bool
  | 0, _, _ => none
  | k + 1, x0, i => if i < 3 then ((modp_strong.f k x0 (rd [2, 7, 61] (i : Int))).bind fun t => if t = true then modp_Prime.l1 k x0 (i + 1) else some false) else some true
def modp_Prime.l0 : Nat → Int → Nat → Option Bool
  | 0, _, _ => none
  | k + 1, x0, i => if i < 3 then (if x0 = rd [2, 7, 61] (i : Int) then some true else if Int.tmod x0 (rd [2, 7, 61] (i : Int)) = 0 then some false else modp_Prime.l0 k x0 (i + 1)) else modp_Prime.l1 k x0 0
def modp_Prime.f (k : Nat) (a0 : Int) : Option Bool := (modp_right.f a0).bind fun t => if t = true then modp_Prime.l0 k a0 0 else some false
def modp_Below.l0 : Nat → Int → Option (Int × Int)
  | 0, _ => none
  | k + 1, x4 => (modp_Prime.f k x4).bind fun t409 => (if t409 = true then (some (x4, 0)) else (modp_Below.l0 k (IntKind.u64.wrap (x4 - 1))))
def modp_Below.j0 : Nat → Int → Bool → Option (Int × Int)
  | 0, _, _ => none
  | k + 1, x0, x10 => if x10 = true then (some (0, 2)) else (modp_Below.l0 k (IntKind.u64.wrap (x0 - 1)))
def modp_Below.f (k : Nat) (a0 : Int) : Option (Int × Int) := if a0 ≤ 2 then (modp_Below.j0 k a0 true) else (modp_Below.j0 k a0 (decide (a0 > 4294967296)))
def triviumref40_Right.f (a0 : Int) : Option (Bool) := if a0 ≥ 2 then (some (decide (a0 < 4294967296))) else (some false)
def triviumref40_Prime.l0 : Nat → Int → Int → Option (Bool)
  | 0, _, _ => none
  | k + 1, x0, x3 => if (IntKind.u64.wrap (x3 * x3)) ≤ x0 then (if x3 = 0 then (none) else (if (Int.tmod x0 x3) = 0 then (some false) else (triviumref40_Prime.l0 k x0 (IntKind.u64.wrap (x3 + 1))))) else (some true)
def triviumref40_Prime.j0 : Nat → Int → Bool → Option (Bool)
  | 0, _, _ => none
  | k + 1, x0, x9 => if x9 = true then (some false) else (triviumref40_Prime.l0 k x0 2)
def triviumref40_Prime.f (k : Nat) (a0 : Int) : Option (Bool) := if a0 < 2 then (triviumref40_Prime.j0 k a0 true) else (triviumref40_Prime.j0 k a0 (decide (a0 ≥ 4294967296)))
def triviumref40_Inv.l0 : Nat → Int → Int → Int → Int → Int → Option (Int × Int)
  | 0, _, _, _, _, _ => none
  | k + 1, x1, x6, x7, x8, x9 => if x7 > 0 then (if x7 = 0 then (none) else (if x1 = 0 then (none) else (triviumref40_Inv.l0 k x1 x7 (IntKind.u64.wrap (x6 - (IntKind.u64.wrap ((IntKind.u64.wrap (Int.tdiv x6 x7)) * x7)))) x9 (Int.tmod (IntKind.u64.wrap ((IntKind.u64.wrap (x8 + x1)) - (Int.tmod (IntKind.u64.wrap ((Int.tmod (IntKind.u64.wrap (Int.tdiv x6 x7)) x1) * x9)) x1))) x1)))) else (if x6 = 1 then (if x1 = 0 then (none) else (some (Int.tmod x8 x1, 0))) else (some (0, 3)))
def triviumref40_Inv.f (k : Nat) (a0 : Int) (a1 : Int) : Option (Int × Int) := (triviumref40_Right.f a1).bind fun t428 => (if t428 = true then (if a1 = 0 then (none) else (triviumref40_Inv.l0 k a1 (Int.tmod a0 a1) a1 1 0)) else (some (0, 2)))
def triviumref40_Pow.f : Nat → Int → Int → Int → Option (Int)
  | 0, _, _, _ => none
  | k + 1, a0, a1, a2 => (triviumref40_Right.f a2).bind fun t525 => (if t525 = true then (if a1 = 0 then (if a2 = 0 then (none) else (some ((1 : Int) % a2))) else ((triviumref40_Pow.f k a0 (IntKind.u64.wrap (Int.tdiv a1 2)) a2).bind fun t526 => (if a2 = 0 then (none) else (if (Int.tmod a1 2) = 1 then (some (Int.tmod (IntKind.u64.wrap ((Int.tmod (IntKind.u64.wrap (t526 * t526)) a2) * (Int.tmod a0 a2))) a2)) else (some (Int.tmod (IntKind.u64.wrap (t526 * t526)) a2)))))) else (some 0))
end Go.K

end
section
set_option linter.unusedVariables false
set_option linter.unusedSimpArgs false
set_option maxRecDepth 8000
namespace Go.K
open Go Go.RowKit
section
variable {α β : Type} {f g : Nat → Option α} {r : α}
theorem ev_pos {c : Prop} [Decidable c] (h : c) (k : Ev f r) : Ev (fun n => if c then f n else g n) r := by
  simpa only [if_pos h] using k
theorem ev_neg {c : Prop} [Decidable c] (h : ¬ c) (k : Ev g r) : Ev (fun n => if c then f n else g n) r := by
  simpa only [if_neg h] using k
theorem ev_ite {c : Prop} [Decidable c] (hp : c → Ev f r) (hn : ¬ c → Ev g r) : Ev (fun n => if c then f n else g n) r := by
  by_cases h : c
  · exact ev_pos h (hp h)
  · exact ev_neg h (hn h)
theorem ev_now {a : α} (h : a = r) : Ev (fun _ => some a) r := ⟨0, fun _ _ => by rw [h]⟩
theorem ev_bind {a : β} {g : Nat → Option β} {f : Nat → β → Option α} (h : Ev g a) (k : Ev (fun n => f n a) r) : Ev (fun n => (g n).bind (f n)) r := h.bind k
theorem ev_eq {a : β} {x : Option β} {f : Nat → β → Option α} (h : x = some a) (k : Ev (fun n => f n a) r) : Ev (fun n => x.bind (f n)) r := by
  subst h; exact k
end
theorem w64 {x : Int} (h0 : -9223372036854775808 ≤ x) (h1 : x ≤ 9223372036854775807) : wrap64 x = x := by unfold wrap64; omega
theorem wu64 {x : Int} (h0 : 0 ≤ x) (h1 : x ≤ 18446744073709551615) : IntKind.u64.wrap x = x := by
  have e : IntKind.u64.wrap x = x % 18446744073709551616 := by simp [IntKind.wrap, IntKind.bits, IntKind.signed]
  rw [e]; omega
theorem mask32 {x : Int} (h0 : 0 ≤ x) (h1 : x ≤ 18446744073709551615) : Go.bits .and .u64 x 4294967295 = x % 4294967296 := by
  have := bits_mask .u64 64 (by decide) (fun n a b => wu64 a (by omega)) 32 (by decide) x h0 (by omega)
  simpa using this
theorem bit1 {x : Int} (h0 : 0 ≤ x) (h1 : x ≤ 18446744073709551615) : Go.bits .and .u64 x 1 = x % 2 := by
  have := bits_mask .u64 64 (by decide) (fun n a b => wu64 a (by omega)) 1 (by decide) x h0 (by omega)
  simpa using this
theorem wf_u64 {x : Int} (h : (Lit.int .u64 x).wf = true) : 0 ≤ x ∧ x ≤ 18446744073709551615 := by
  simp [Lit.wf, IntKind.min, IntKind.max, IntKind.signed, IntKind.bits] at h; omega
theorem rd_nat (xs : List Int) (i : Nat) : rd xs (i : Int) = xs.getD i 0 := by simp [rd]
theorem rd_append_len (xs : List Int) (y : Int) (zs : List Int) : rd (xs ++ y :: zs) (xs.length : Int) = y := by
  simp [rd, List.getD]
theorem rd_cons_zero (y : Int) (zs : List Int) : rd (y :: zs) 0 = y := by simp [rd]
theorem set_append_len (xs : List Int) (y v : Int) (zs : List Int) : (xs ++ y :: zs).set (xs.length : Int).toNat v = xs ++ v :: zs := by
  simp
def val (b : Int) : List Int → Int
  | [] => 0
  | x :: xs => x + b * val b xs
def Dig (b : Int) (xs : List Int) : Prop := ∀ x ∈ xs, 0 ≤ x ∧ x < b
theorem Dig.nil {b : Int} : Dig b [] := fun _ h => by cases h
theorem Dig.cons {b x : Int} {xs : List Int} (h0 : 0 ≤ x) (h1 : x < b) (h : Dig b xs) : Dig b (x :: xs) := by
  intro y hy
  rcases List.mem_cons.1 hy with rfl | hy
  · exact ⟨h0, h1⟩
  · exact h y hy
theorem Dig.head {b x : Int} {xs : List Int} (h : Dig b (x :: xs)) : 0 ≤ x ∧ x < b := h x (List.mem_cons_self ..)
theorem Dig.tail {b x : Int} {xs : List Int} (h : Dig b (x :: xs)) : Dig b xs := fun y hy => h y (List.mem_cons_of_mem _ hy)
theorem Dig.append {b : Int} {xs ys : List Int} (h : Dig b xs) (k : Dig b ys) : Dig b (xs ++ ys) := by
  intro y hy
  rcases List.mem_append.1 hy with hy | hy
  · exact h y hy
  · exact k y hy
theorem Dig.left {b : Int} {xs ys : List Int} (h : Dig b (xs ++ ys)) : Dig b xs := fun y hy => h y (List.mem_append_left _ hy)
theorem Dig.right {b : Int} {xs ys : List Int} (h : Dig b (xs ++ ys)) : Dig b ys := fun y hy => h y (List.mem_append_right _ hy)
theorem Dig.zeros {b : Int} (hb : 0 < b) (n : Nat) : Dig b (List.replicate n 0) := by
  intro y hy
  have := List.eq_of_mem_replicate hy
  omega
theorem Dig.rd {b : Int} {xs : List Int} (h : Dig b xs) {i : Int} (h0 : 0 ≤ i) (h1 : i < xs.length) : 0 ≤ rd xs i ∧ rd xs i < b := by
  obtain ⟨j, rfl⟩ := Int.eq_ofNat_of_zero_le h0
  have hj : j < xs.length := by omega
  rw [rd_nat, List.getD, List.getElem?_eq_getElem hj]
  exact h _ (List.getElem_mem hj)
theorem Dig.take {b : Int} {xs : List Int} (h : Dig b xs) (i : Nat) : Dig b (xs.take i) := fun y hy => h y (List.mem_of_mem_take hy)
theorem Dig.mono {b c : Int} {xs : List Int} (h : Dig b xs) (hc : b ≤ c) : Dig c xs := fun x hx => ⟨(h x hx).1, by have := (h x hx).2; omega⟩
theorem val_append (b : Int) (xs ys : List Int) : val b (xs ++ ys) = val b xs + b ^ xs.length * val b ys := by
  induction xs with
  | nil => simp [val]
  | cons x xs ih =>
    simp only [List.cons_append, val, ih, List.length_cons, Int.pow_succ, Int.mul_add]
    rw [Int.mul_comm (b ^ xs.length) b, Int.mul_assoc, Int.add_assoc]
theorem val_zeros (b : Int) (n : Nat) : val b (List.replicate n 0) = 0 := by
  induction n with
  | zero => rfl
  | succ n ih => simp [List.replicate_succ, val, ih]
theorem val_nonneg {b : Int} (hb : 0 ≤ b) : ∀ {xs : List Int}, Dig b xs → 0 ≤ val b xs
  | [], _ => Int.le_refl _
  | x :: xs, h => by
    have := val_nonneg hb h.tail
    have := Int.mul_nonneg hb this
    have := h.head.1
    simp only [val]; omega
theorem val_lt {b : Int} (hb : 0 < b) : ∀ {xs : List Int}, Dig b xs → val b xs < b ^ xs.length
  | [], _ => by simp [val]
  | x :: xs, h => by
    have h1 := val_lt hb h.tail
    have h2 : b * (val b xs + 1) ≤ b * b ^ xs.length := Int.mul_le_mul_of_nonneg_left (by omega) (by omega)
    have := h.head.2
    rw [Int.mul_add] at h2
    simp only [val, List.length_cons, Int.pow_succ]
    rw [Int.mul_comm (b ^ xs.length) b]
    omega
def dgN (b : Nat) (n : Nat) : List Int := if h : 2 ≤ b ∧ 0 < n then ((n % b : Nat) : Int) :: dgN b (n / b) else []
termination_by n
decreasing_by exact Nat.div_lt_self h.2 h.1
def dg (b n : Int) : List Int := dgN b.toNat n.toNat
theorem dgN_zero (b : Nat) : dgN b 0 = [] := by rw [dgN, dif_neg (by omega)]
theorem dgN_pos {b n : Nat} (hb : 2 ≤ b) (hn : 0 < n) : dgN b n = ((n % b : Nat) : Int) :: dgN b (n / b) := by rw [dgN, dif_pos ⟨hb, hn⟩]
theorem dg_zero (b : Int) : dg b 0 = [] := dgN_zero _
theorem dg_pos {b n : Int} (hb : 2 ≤ b) (hn : 0 < n) : dg b n = n % b :: dg b (n / b) := by
  obtain ⟨c, rfl⟩ := Int.eq_ofNat_of_zero_le (show (0 : Int) ≤ b by omega)
  obtain ⟨m, rfl⟩ := Int.eq_ofNat_of_zero_le (show (0 : Int) ≤ n by omega)
  have e : ((m : Int) / (c : Int)).toNat = m / c := by rw [← Int.natCast_ediv]; rfl
  unfold dg
  rw [e]
  simp only [Int.toNat_natCast]
  rw [dgN_pos (by omega) (by omega)]
  simp
theorem dg_ind {b : Int} (hb : 2 ≤ b) {P : Int → Prop} (h0 : P 0) (h1 : ∀ n, 0 < n → P (n / b) → P n) : ∀ n : Int, 0 ≤ n → P n := by
  have H : ∀ m : Nat, ∀ n : Int, 0 ≤ n → n.toNat = m → P n := by
    intro m
    induction m using Nat.strongRecOn with
    | ind m ih =>
      intro n hn hm
      by_cases hz : n = 0
      · rw [hz]; exact h0
      · have hl : n / b < n := Int.ediv_lt_of_lt_mul (by omega) (by
          have : n * 2 ≤ n * b := Int.mul_le_mul_of_nonneg_left hb hn
          omega)
        have hg : 0 ≤ n / b := Int.ediv_nonneg hn (by omega)
        exact h1 n (by omega) (ih _ (by omega) _ hg rfl)
  exact fun n hn => H _ n hn rfl
theorem dg_dig {b : Int} (hb : 2 ≤ b) (n : Int) (hn : 0 ≤ n) : Dig b (dg b n) := by
  refine dg_ind hb (P := fun n => Dig b (dg b n)) ?_ ?_ n hn
  · rw [dg_zero]; exact Dig.nil
  · intro n hn ih
    rw [dg_pos hb hn]
    exact ih.cons (Int.emod_nonneg _ (by omega)) (Int.emod_lt_of_pos _ (by omega))
theorem val_dg {b : Int} (hb : 2 ≤ b) (n : Int) (hn : 0 ≤ n) : val b (dg b n) = n := by
  refine dg_ind hb (P := fun n => val b (dg b n) = n) ?_ ?_ n hn
  · rw [dg_zero]; rfl
  · intro n hn ih
    rw [dg_pos hb hn]
    simp only [val, ih]
    have := Int.emod_add_mul_ediv n b
    omega
def strip (xs : List Int) : List Int := match xs with
  | [] => []
  | x :: xs => match strip xs with
    | [] => if x = 0 then [] else [x]
    | y :: ys => x :: y :: ys
theorem strip_dg {b : Int} (hb : 2 ≤ b) : ∀ {xs : List Int}, Dig b xs → strip xs = dg b (val b xs)
  | [], _ => by rw [val, dg_zero]; rfl
  | x :: xs, h => by
    have ih := strip_dg hb h.tail
    have hx := h.head
    have hv := val_nonneg (by omega) h.tail
    have hm : 0 ≤ b * val b xs := Int.mul_nonneg (by omega) hv
    have e1 : (x + b * val b xs) % b = x := by rw [Int.add_mul_emod_self_left]; exact Int.emod_eq_of_lt hx.1 hx.2
    have e2 : (x + b * val b xs) / b = val b xs := by rw [Int.add_mul_ediv_left _ _ (by omega), Int.ediv_eq_zero_of_lt hx.1 hx.2]; omega
    rw [strip, val]
    by_cases hz : val b xs = 0
    · rw [hz, dg_zero] at ih
      rw [ih, hz, Int.mul_zero, Int.add_zero]
      by_cases hx0 : x = 0
      · rw [hx0, dg_zero]; rfl
      · rw [dg_pos hb (by omega), Int.emod_eq_of_lt hx.1 hx.2, Int.ediv_eq_zero_of_lt hx.1 hx.2, dg_zero]
        simp [hx0]
    · have hmv : 0 < val b xs := by omega
      have hp : 0 < b * val b xs := Int.mul_pos (by omega) hmv
      rw [dg_pos hb (show 0 < x + b * val b xs by omega), e1, e2, ih, dg_pos hb hmv]
theorem dg_len_le {b : Int} (hb : 2 ≤ b) (k : Nat) : ∀ n : Int, 0 ≤ n → n < b ^ k → (dg b n).length ≤ k := by
  induction k with
  | zero => intro n h0 h1; have : n = 0 := by simp at h1; omega
            rw [this, dg_zero]; simp
  | succ k ih =>
    intro n h0 h1
    by_cases hz : n = 0
    · rw [hz, dg_zero]; simp
    · rw [dg_pos hb (by omega), List.length_cons]
      have := ih (n / b) (Int.ediv_nonneg h0 (by omega)) (Int.ediv_lt_of_lt_mul (by omega) (by rw [← Int.pow_succ]; exact h1))
      omega
theorem pow_mono {b : Int} (hb : 1 ≤ b) {m n : Nat} (h : m ≤ n) : b ^ m ≤ b ^ n := by
  obtain ⟨d, rfl⟩ := Nat.exists_eq_add_of_le h
  rw [Int.pow_add]
  have h1 : 0 < b ^ m := Int.pow_pos (by omega)
  have h2 : 0 < b ^ d := Int.pow_pos (by omega)
  have := Int.mul_le_mul_of_nonneg_left (show 1 ≤ b ^ d by omega) (Int.le_of_lt h1)
  omega
theorem dg_len_ge {b : Int} (hb : 2 ≤ b) (k : Nat) (n : Int) (h0 : 0 ≤ n) (h1 : b ^ k ≤ n) : k < (dg b n).length := by
  have hl := val_lt (b := b) (by omega) (dg_dig hb n h0)
  rw [val_dg hb n h0] at hl
  apply Nat.lt_of_not_le
  intro hle
  have : b ^ (dg b n).length ≤ b ^ k := pow_mono (by omega) hle
  omega
theorem dg_inj {b m n : Int} (hb : 2 ≤ b) (hm : 0 ≤ m) (hn : 0 ≤ n) (h : dg b m = dg b n) : m = n := by
  rw [← val_dg hb m hm, ← val_dg hb n hn, h]
theorem dg_nil_iff {b n : Int} (hb : 2 ≤ b) (hn : 0 ≤ n) : dg b n = [] ↔ n = 0 := by
  constructor
  · intro h
    exact dg_inj hb hn (Int.le_refl _) (by rw [h, dg_zero])
  · rintro rfl; exact dg_zero _
end Go.K

end
section
set_option linter.unusedVariables false
set_option linter.unusedSimpArgs false
set_option maxRecDepth 8000
namespace Go.K
open Go Go.RowKit
abbrev B : Int := 4294967296
abbrev D : Int := 10000
theorem ev_succ {α : Type} {g : Nat → Option α} {r : α} (h : Ev (fun k => g (k + 1)) r) : Ev g r := by
  obtain ⟨K, hK⟩ := h
  refine ⟨K + 1, fun k hk => ?_⟩
  obtain ⟨m, rfl⟩ : ∃ m, k = m + 1 := ⟨k - 1, by omega⟩
  exact hK m (by omega)
theorem strip_snoc_zero (xs : List Int) : strip (xs ++ [0]) = strip xs := by
  induction xs with
  | nil => rfl
  | cons x xs ih => rw [List.cons_append, strip, strip, ih]
theorem strip_snoc (xs : List Int) {y : Int} (hy : y ≠ 0) : strip (xs ++ [y]) = xs ++ [y] := by
  induction xs with
  | nil => simp [strip, hy]
  | cons x xs ih =>
    rw [List.cons_append, strip, ih]
    cases xs <;> rfl
theorem take_succ_rd (xs : List Int) (i : Nat) (h : i < xs.length) : xs.take (i + 1) = xs.take i ++ [rd xs i] := by
  rw [List.take_succ_eq_append_getElem h, rd_nat, List.getD, List.getElem?_eq_getElem h]; rfl
theorem cast_pred (i : Nat) : ((i + 1 : Nat) : Int) - 1 = i := by omega
theorem cast_succ (i : Nat) : (i : Int) + 1 = ((i + 1 : Nat) : Int) := by omega
theorem trim_l0 (xs : List Int) (hl : xs.length < 17592186044416) : ∀ i : Nat, i ≤ xs.length → Ev (fun k => nat_trim.l0 k xs (i : Int)) (strip (xs.take i)) := by
  intro i
  induction i with
  | zero =>
    intro h
    refine ev_succ ?_
    simp only [nat_trim.l0]
    refine ev_neg (by omega) (ev_pos (by omega) (ev_pos (by omega) (ev_now ?_)))
    rfl
  | succ i ih =>
    intro h
    refine ev_succ ?_
    simp only [nat_trim.l0, cast_pred, Int.toNat_natCast]
    simp (disch := omega) only [w64]
    refine ev_pos (by omega) (ev_pos (by omega) (ev_pos (by omega) ?_))
    rw [take_succ_rd xs i (by omega)]
    refine ev_ite (fun hz => ?_) (fun hz => ?_)
    · rw [hz, strip_snoc_zero]; exact ih (by omega)
    · refine ev_pos (by omega) (ev_pos (by omega) (ev_now ?_))
      rw [strip_snoc _ hz]
theorem trim_ev (xs : List Int) (hl : xs.length < 17592186044416) : Ev (fun k => nat_trim.f k xs) (strip xs) := by
  have := trim_l0 xs hl xs.length (Nat.le_refl _)
  rwa [List.take_length] at this
theorem rtrim_l0 (xs : List Int) (hl : xs.length < 17592186044416) : ∀ i : Nat, i ≤ xs.length → Ev (fun k => triviumref02_Trim.l0 k xs (i : Int)) (strip (xs.take i)) := by
  intro i
  induction i with
  | zero =>
    intro h
    refine ev_succ ?_
    simp only [triviumref02_Trim.l0, Option.bind_some]
    refine ev_neg (by omega) (ev_pos (by omega) (ev_pos (by omega) (ev_pos (by simp; try omega) (ev_now ?_))))
    rfl
  | succ i ih =>
    intro h
    refine ev_succ ?_
    simp only [triviumref02_Trim.l0, Option.bind_some, cast_pred, Int.toNat_natCast]
    simp (disch := omega) only [w64]
    refine ev_pos (by omega) (ev_pos (by omega) (ev_pos (by omega) ?_))
    rw [take_succ_rd xs i (by omega)]
    refine ev_ite (fun hz => ?_) (fun hz => ?_)
    · rw [hz, strip_snoc_zero]; exact ih (by omega)
    · refine ev_pos (by omega) (ev_pos (by omega) (ev_pos (by simp [List.length_take]; omega) (ev_now ?_)))
      rw [strip_snoc _ hz]; rfl
theorem rtrim_ev (xs : List Int) (hl : xs.length < 17592186044416) : Ev (fun k => triviumref02_Trim.f k xs) (strip xs) := by
  have := rtrim_l0 xs hl xs.length (Nat.le_refl _)
  rwa [List.take_length] at this
theorem clean_l1 : ∀ n : Nat, ∀ xs : List Int, xs.length = n → xs.length < 17592186044416 → Ev (fun k => triviumref02_Clean.l1 k xs) (strip xs) := by
  intro n
  induction n with
  | zero =>
    intro xs hn hl
    refine ev_succ ?_
    simp only [triviumref02_Clean.l1]
    refine ev_neg (by omega) (ev_now ?_)
    rw [List.length_eq_zero_iff.1 hn]; rfl
  | succ n ih =>
    intro xs hn hl
    have e : xs = xs.take n ++ [rd xs n] := by rw [← take_succ_rd xs n (by omega), ← hn, List.take_length]
    refine ev_succ ?_
    simp only [triviumref02_Clean.l1]
    rw [hn]
    simp only [cast_pred, Int.toNat_natCast]
    simp (disch := omega) only [w64, Int.toNat_natCast]
    refine ev_pos (by omega) (ev_pos (by omega) (ev_pos (by omega) ?_))
    refine ev_ite (fun hz => ?_) (fun hz => ?_)
    · rw [hz] at e
      refine ev_pos (by omega) ?_
      conv => rhs; rw [e, strip_snoc_zero]
      exact ih _ (by rw [List.length_take]; omega) (by rw [List.length_take]; omega)
    · refine ev_now ?_
      conv => rhs; rw [e, strip_snoc _ hz]
      exact e
def cl (xs : List Int) (m : Nat) : Int := val B ((xs.take m).map (· % B))
theorem dig_map (xs : List Int) : Dig B (xs.map (· % B)) := by
  intro y hy
  obtain ⟨x, -, rfl⟩ := List.mem_map.1 hy
  exact ⟨Int.emod_nonneg _ (by decide), Int.emod_lt_of_pos _ (by decide)⟩
theorem cl_nonneg (xs : List Int) (m : Nat) : 0 ≤ cl xs m := val_nonneg (by decide) (dig_map _)
theorem cl_lt (xs : List Int) (m : Nat) : cl xs m < B ^ m := by
  have h := val_lt (b := B) (by decide) (dig_map (xs.take m))
  have h2 : ((xs.take m).map (· % B)).length ≤ m := by rw [List.length_map, List.length_take]; omega
  exact Int.lt_of_lt_of_le h (pow_mono (by decide) h2)
theorem clean_l0 (xs : List Int) (m : Nat) (hu : ∀ x ∈ xs, 0 ≤ x) (hl : xs.length < 17592186044416) : ∀ d i : Nat, min xs.length m - i = d → i ≤ min xs.length m →
    Ev (fun k => triviumref02_Clean.l0 k xs m ((xs.take i).map (· % B)) i) (strip ((xs.take m).map (· % B))) := by
  intro d
  induction d with
  | zero =>
    intro i hd hi
    have e : xs.take i = xs.take m := by
      rcases Nat.le_total xs.length m with h | h
      · rw [List.take_of_length_le (show xs.length ≤ i by omega), List.take_of_length_le h]
      · rw [show i = m by omega]
    have key : Ev (fun k => triviumref02_Clean.j1 k ((xs.take i).map (· % B))) (strip ((xs.take m).map (· % B))) := by
      refine ev_succ ?_
      simp only [triviumref02_Clean.j1]
      rw [e]
      exact clean_l1 _ _ rfl (by rw [List.length_map, List.length_take]; omega)
    refine ev_succ ?_
    simp only [triviumref02_Clean.l0]
    refine ev_ite (fun h1 => ?_) (fun h1 => key)
    exact ev_neg (by omega) key
  | succ d ih =>
    intro i hd hi
    refine ev_succ ?_
    simp only [triviumref02_Clean.l0]
    simp (disch := omega) only [w64]
    have hr : 0 ≤ rd xs i := by
      rw [rd_nat, List.getD, List.getElem?_eq_getElem (show i < xs.length by omega)]
      exact hu _ (List.getElem_mem _)
    refine ev_pos (by omega) (ev_pos (by omega) (ev_pos (by omega) (ev_pos (by rw [List.length_map, List.length_take]; omega) ?_)))
    have := ih (i + 1) (by omega) (by omega)
    rw [take_succ_rd xs i (by omega), List.map_append] at this
    rw [cast_succ, Int.tmod_eq_emod_of_nonneg hr]
    exact this
theorem clean_ev (xs : List Int) (m : Nat) (hu : ∀ x ∈ xs, 0 ≤ x) (hl : xs.length < 17592186044416) : Ev (fun k => triviumref02_Clean.f k xs m) (dg B (cl xs m)) := by
  have := clean_l0 xs m hu hl _ 0 rfl (by omega)
  rw [strip_dg (by decide) (dig_map _)] at this
  exact this
def cmpI (x y : Int) : Int := if x < y then -1 else if y < x then 1 else 0
theorem val_lt_top {b : Int} (hb : 2 ≤ b) {p q s : List Int} {x y : Int} (hp : Dig b p) (hq : Dig b q) (hl : p.length = q.length) (hxy : x < y) :
    val b (p ++ x :: s) < val b (q ++ y :: s) := by
  rw [val_append, val_append, hl]
  have h1 := val_lt (b := b) (by omega) hp
  have h2 := val_nonneg (b := b) (by omega) hq
  have hpw : 0 < b ^ q.length := Int.pow_pos (by omega)
  have h3 : b ^ q.length * (val b (x :: s) + 1) ≤ b ^ q.length * val b (y :: s) := Int.mul_le_mul_of_nonneg_left (by simp only [val]; omega) (Int.le_of_lt hpw)
  rw [hl] at h1
  rw [Int.mul_add] at h3
  omega
theorem split_at (xs : List Int) (i : Nat) (h : i < xs.length) : xs = xs.take i ++ rd xs i :: xs.drop (i + 1) := by
  conv => lhs; rw [← List.take_append_drop (i + 1) xs, take_succ_rd xs i h]
  simp
theorem cmp_l0 {b : Int} (hb : 2 ≤ b) (f : Nat → List Int → List Int → Int → Option Int)
    (hf : ∀ k x0 x1 x5, f (k + 1) x0 x1 x5 = if x5 ≥ 0 then (if 0 ≤ x5 then (if x5 < (x0.length : Int) then (if x5 < (x1.length : Int) then (if (rd x0 x5) < (rd x1 x5) then (some (-1)) else (if (rd x0 x5) > (rd x1 x5) then (some 1) else (f k x0 x1 (wrap64 (x5 - 1))))) else (none)) else (none)) else (none)) else (some 0))
    (xs ys : List Int) (hx : Dig b xs) (hy : Dig b ys) (hl : xs.length < 17592186044416) (he : xs.length = ys.length) : ∀ i : Nat, i ≤ xs.length → xs.drop i = ys.drop i →
    Ev (fun k => f k xs ys ((i : Int) - 1)) (cmpI (val b xs) (val b ys)) := by
  intro i
  induction i with
  | zero =>
    intro hi hp
    refine ev_succ ?_
    simp only [hf]
    refine ev_neg (by omega) (ev_now ?_)
    simp only [List.drop_zero] at hp
    simp [cmpI, hp]
  | succ i ih =>
    intro hi hp
    refine ev_succ ?_
    simp only [hf, cast_pred]
    simp (disch := omega) only [w64]
    refine ev_pos (by omega) (ev_pos (by omega) (ev_pos (by omega) (ev_pos (by omega) ?_)))
    have ex := split_at xs i (by omega)
    have ey := split_at ys i (by omega)
    rw [← hp] at ey
    refine ev_ite (fun hr => ev_now ?_) (fun hr => ev_ite (fun hr' => ev_now ?_) (fun hr' => ?_))
    · have := val_lt_top hb (s := xs.drop (i + 1)) (hx.take i) (hy.take i) (by simp; omega) hr
      rw [← ex, ← ey] at this
      simp [cmpI, this]
    · have := val_lt_top hb (s := xs.drop (i + 1)) (hy.take i) (hx.take i) (by simp; omega) hr'
      rw [← ex, ← ey] at this
      simp [cmpI, this, Int.not_lt.2 (Int.le_of_lt this)]
    · refine ih (by omega) ?_
      have e : rd xs i = rd ys i := by omega
      have gx : xs.drop i = rd xs i :: xs.drop (i + 1) := by
        rw [List.drop_eq_getElem_cons (show i < xs.length by omega), rd_nat, List.getD, List.getElem?_eq_getElem (show i < xs.length by omega)]; rfl
      have gy : ys.drop i = rd ys i :: ys.drop (i + 1) := by
        rw [List.drop_eq_getElem_cons (show i < ys.length by omega), rd_nat, List.getD, List.getElem?_eq_getElem (show i < ys.length by omega)]; rfl
      rw [gx, gy, e, hp]
theorem dg_lt_of_len {b x y : Int} (hb : 2 ≤ b) (hx : 0 ≤ x) (hy : 0 ≤ y) (h : (dg b x).length < (dg b y).length) : x < y := by
  apply Int.lt_of_not_ge
  intro hge
  have h1 := val_lt (b := b) (by omega) (dg_dig hb x hx)
  rw [val_dg hb x hx] at h1
  have := dg_len_le hb _ y hy (Int.lt_of_le_of_lt hge h1)
  omega
theorem cmp_ev {x y : Int} (hx : 0 ≤ x) (hy : 0 ≤ y) (hl : (dg B x).length < 17592186044416) : Ev (fun k => nat_Cmp.f k (dg B x) (dg B y)) (cmpI x y) := by
  have hb : (2 : Int) ≤ B := by decide
  unfold nat_Cmp.f
  refine ev_ite (fun h => ev_now ?_) (fun h => ev_ite (fun h' => ev_now ?_) (fun h' => ?_))
  · have := dg_lt_of_len hb hx hy (by omega)
    simp [cmpI, this]
  · have := dg_lt_of_len hb hy hx (by omega)
    simp [cmpI, this, Int.not_lt.2 (Int.le_of_lt this)]
  · simp (disch := omega) only [w64]
    have := cmp_l0 hb nat_Cmp.l0 (fun _ _ _ _ => rfl) (dg B x) (dg B y) (dg_dig hb x hx) (dg_dig hb y hy) hl (by omega) _ (Nat.le_refl _) (by rw [List.drop_length, List.drop_eq_nil_of_le (by omega)])
    rwa [val_dg hb x hx, val_dg hb y hy] at this
theorem rcmp_ev {x y : Int} (hx : 0 ≤ x) (hy : 0 ≤ y) (hl : (dg D x).length < 17592186044416) : Ev (fun k => triviumref02_Cmp.f k (dg D x) (dg D y)) (cmpI x y) := by
  have hb : (2 : Int) ≤ D := by decide
  unfold triviumref02_Cmp.f
  refine ev_ite (fun h => ?_) (fun h => ev_ite (fun h' => ev_now ?_) (fun h' => ev_now ?_))
  · simp (disch := omega) only [w64]
    have := cmp_l0 hb triviumref02_Cmp.l0 (fun _ _ _ _ => rfl) (dg D x) (dg D y) (dg_dig hb x hx) (dg_dig hb y hy) hl (by omega) _ (Nat.le_refl _) (by rw [List.drop_length, List.drop_eq_nil_of_le (by omega)])
    rwa [val_dg hb x hx, val_dg hb y hy] at this
  · have := dg_lt_of_len hb hx hy (by omega)
    simp [cmpI, this]
  · have := dg_lt_of_len hb hy hx (by omega)
    simp [cmpI, this, Int.not_lt.2 (Int.le_of_lt this)]
end Go.K

end
section
set_option linter.unusedVariables false
set_option linter.unusedSimpArgs false
set_option maxRecDepth 8000
namespace Go.K
open Go Go.RowKit
theorem hD : (2 : Int) ≤ D := by decide
theorem hB : (2 : Int) ≤ B := by decide
theorem pow_base_mono {a b : Int} (ha : 0 ≤ a) (h : a ≤ b) : ∀ k : Nat, a ^ k ≤ b ^ k
  | 0 => by simp
  | k + 1 => by
    rw [Int.pow_succ, Int.pow_succ]
    have h1 : 0 ≤ a ^ k := Int.pow_nonneg ha
    exact Int.mul_le_mul (pow_base_mono ha h k) h ha (by have := pow_base_mono ha h k; omega)
theorem len_le {b x : Int} (hb : 2 ≤ b) {K : Nat} (h0 : 0 ≤ x) (h1 : x < 2 ^ K) : (dg b x).length ≤ K :=
  dg_len_le hb K x h0 (Int.lt_of_lt_of_le h1 (pow_base_mono (by decide) hb K))
theorem ediv_tdiv {a b : Int} (h : 0 ≤ a) : Int.tdiv a b = a / b := Int.tdiv_eq_ediv_of_nonneg h
theorem emod_tmod {a b : Int} (h : 0 ≤ a) : Int.tmod a b = a % b := Int.tmod_eq_emod_of_nonneg h
theorem drop_rd (xs : List Int) (i : Nat) (h : i < xs.length) : xs.drop i = rd xs i :: xs.drop (i + 1) := by
  rw [List.drop_eq_getElem_cons h, rd_nat, List.getD, List.getElem?_eq_getElem h]; rfl
theorem rd_nonneg_lt {b : Int} {xs : List Int} (h : Dig b xs) {i : Nat} (hi : i < xs.length) : 0 ≤ rd xs i ∧ rd xs i < b := h.rd (by omega) (by omega)
theorem muladd_l1 : ∀ c : Int, 0 ≤ c → ∀ out : List Int, Dig D out → c ≤ 9223372036854775807 → out.length + (dg D c).length < 17592186044416 →
    Ev (fun k => triviumref02_MulAdd.l1 k c out) (dg D (val D out + D ^ out.length * c)) := by
  refine dg_ind hD ?_ ?_
  · intro out ho hc hl
    refine ev_succ ?_
    simp only [triviumref02_MulAdd.l1]
    refine ev_neg (by omega) (ev_bind (rtrim_ev out (by omega)) (ev_now ?_))
    rw [strip_dg hD ho, Int.mul_zero, Int.add_zero]
  · intro c hc ih out ho hc2 hl
    have e : (dg D c).length = (dg D (c / D)).length + 1 := by rw [dg_pos hD hc]; rfl
    simp only [D] at *
    refine ev_succ ?_
    simp only [triviumref02_MulAdd.l1]
    rw [ediv_tdiv (by omega), emod_tmod (by omega)]
    simp (disch := omega) only [w64]
    refine ev_pos hc (ev_pos (by omega) ?_)
    have := ih (out ++ [c % 10000]) (ho.append (Dig.nil.cons (by omega) (by omega))) (by omega) (by rw [List.length_append]; simp; omega)
    rw [val_append, List.length_append] at this
    have ev : val 10000 out + 10000 ^ out.length * val 10000 [c % 10000] + 10000 ^ (out.length + [c % 10000].length) * (c / 10000) = val 10000 out + 10000 ^ out.length * c := by
      have h2 : 10000 ^ (out.length + [c % 10000].length) * (c / 10000) = 10000 ^ out.length * (10000 * (c / 10000)) := by
        rw [Int.pow_add, List.length_singleton, Int.pow_one, Int.mul_assoc]
      rw [h2, Int.add_assoc, ← Int.mul_add]
      congr 2
      simp only [val]; omega
    rw [ev] at this
    exact this
theorem muladd_l0 (xs : List Int) (m : Int) (hx : Dig D xs) (hm0 : 0 ≤ m) (hm : m ≤ B) (hl : xs.length < 1099511627776) : ∀ d i : Nat, xs.length - i = d → i ≤ xs.length → ∀ (c : Int) (out : List Int), 0 ≤ c → c ≤ B → Dig D out → out.length = i →
    Ev (fun k => triviumref02_MulAdd.l0 k xs m c out i) (dg D (val D out + D ^ out.length * (c + m * val D (xs.drop i)))) := by
  intro d
  induction d with
  | zero =>
    intro i hd hi c out hc0 hc ho hlo
    refine ev_succ ?_
    simp only [triviumref02_MulAdd.l0]
    rw [List.drop_eq_nil_of_le (by omega), val, Int.mul_zero, Int.add_zero]
    have hcl : (dg D c).length ≤ 9 := dg_len_le hD 9 c hc0 (by simp only [D, B] at *; omega)
    exact ev_neg (by omega) (muladd_l1 c hc0 out ho (by simp only [B] at hc; omega) (by omega))
  | succ d ih =>
    intro i hd hi c out hc0 hc ho hlo
    have hr := rd_nonneg_lt hx (show i < xs.length by omega)
    have hp0 : 0 ≤ rd xs i * m := Int.mul_nonneg hr.1 hm0
    have hp1 : rd xs i * m ≤ 9999 * m := Int.mul_le_mul_of_nonneg_right (by simp only [D] at hr; omega) hm0
    refine ev_succ ?_
    simp only [triviumref02_MulAdd.l0]
    simp only [B, D] at *
    simp (disch := omega) only [w64, ediv_tdiv, emod_tmod]
    refine ev_pos (by omega) (ev_pos (by omega) (ev_pos (by omega) ?_))
    have hq0 : 0 ≤ c + rd xs i * m := by omega
    generalize hp : rd xs i * m = p at *
    have := ih (i + 1) (by omega) (by omega) ((c + p) / 10000) (out ++ [(c + p) % 10000]) (by omega) (by omega) (ho.append (Dig.nil.cons (by omega) (by omega))) (by rw [List.length_append, hlo]; rfl)
    rw [cast_succ]
    have ev : val 10000 (out ++ [(c + p) % 10000]) + 10000 ^ (out ++ [(c + p) % 10000]).length * ((c + p) / 10000 + m * val 10000 (xs.drop (i + 1))) = val 10000 out + 10000 ^ out.length * (c + m * val 10000 (xs.drop i)) := by
      rw [val_append, List.length_append, Int.pow_add, drop_rd xs i (by omega)]
      simp only [val, List.length_cons, List.length_nil, Int.mul_zero, Int.add_zero, Nat.zero_add, Int.pow_succ, Int.pow_zero, Int.one_mul]
      rw [Int.mul_assoc, Int.add_assoc, ← Int.mul_add]
      congr 2
      have : m * (rd xs ↑i + 10000 * val 10000 (xs.drop (i + 1))) = p + 10000 * (m * val 10000 (xs.drop (i + 1))) := by
        rw [Int.mul_add, Int.mul_comm m, hp, ← Int.mul_assoc, Int.mul_comm m 10000, Int.mul_assoc]
      rw [this]
      omega
    rw [ev] at this
    exact this
theorem muladd_ev {x m c : Int} (hx : 0 ≤ x) (hm0 : 0 ≤ m) (hm : m ≤ B) (hc0 : 0 ≤ c) (hc : c ≤ B) (hl : (dg D x).length < 1099511627776) :
    Ev (fun k => triviumref02_MulAdd.f k (dg D x) m c) (dg D (x * m + c)) := by
  have := muladd_l0 (dg D x) m (dg_dig hD x hx) hm0 hm hl _ 0 rfl (by omega) c [] hc0 hc Dig.nil rfl
  rw [List.drop_zero, val_dg hD x hx] at this
  have e : val D [] + D ^ ([] : List Int).length * (c + m * x) = x * m + c := by
    simp [val, Int.mul_comm m x]; omega
  rw [e] at this
  exact this
theorem set_zeros (i : Nat) (q : List Int) (v : Int) : (List.replicate (i + 1) 0 ++ q).set i v = List.replicate i 0 ++ v :: q := by
  induction i with
  | zero => rfl
  | succ i ih => rw [List.replicate_succ, List.cons_append, List.set_cons_succ, ih]; rfl
theorem divsmall_l0 (xs : List Int) (d : Int) (hx : Dig D xs) (hd0 : 0 < d) (hd : d ≤ B) (hl : xs.length < 1099511627776) : ∀ i : Nat, i ≤ xs.length → ∀ (q : List Int) (r : Int), Dig D q → 0 ≤ r → r < d →
    d * val D q + r = val D (xs.drop i) → q.length + i = xs.length →
    Ev (fun k => triviumref02_DivSmall.l0 k xs d (List.replicate i 0 ++ q) r ((i : Int) - 1)) (dg D (val D xs / d), val D xs % d) := by
  intro i
  induction i with
  | zero =>
    intro hi q r hq hr0 hr he hlq
    refine ev_succ ?_
    simp only [triviumref02_DivSmall.l0]
    refine ev_neg (by omega) (ev_bind (rtrim_ev _ (by simp; omega)) (ev_now ?_))
    rw [List.drop_zero] at he
    have e1 : val D xs / d = val D q := by
      rw [← he, Int.mul_add_ediv_left _ _ (by omega), Int.ediv_eq_zero_of_lt hr0 hr]; omega
    have e2 : val D xs % d = r := by
      rw [← he, Int.mul_add_emod_self_left, Int.emod_eq_of_lt hr0 hr]
    rw [e1, e2]
    simp only [List.replicate_zero, List.nil_append]
    rw [strip_dg hD hq]
  | succ i ih =>
    intro hi q r hq hr0 hr he hlq
    have ha := rd_nonneg_lt hx (show i < xs.length by omega)
    simp only [B, D] at *
    refine ev_succ ?_
    simp only [triviumref02_DivSmall.l0, cast_pred]
    have ht0 : 0 ≤ 10000 * r + rd xs i := by omega
    simp (disch := omega) only [w64]
    rw [ediv_tdiv ht0, emod_tmod ht0]
    have hqd : (10000 * r + rd xs i) / d < 10000 := Int.ediv_lt_of_lt_mul hd0 (by omega)
    have hqd0 : 0 ≤ (10000 * r + rd xs i) / d := Int.ediv_nonneg ht0 (by omega)
    have hm0 : 0 ≤ (10000 * r + rd xs i) % d := Int.emod_nonneg _ (by omega)
    have hm1 : (10000 * r + rd xs i) % d < d := Int.emod_lt_of_pos _ hd0
    have hdm := Int.mul_ediv_add_emod (10000 * r + rd xs i) d
    simp (disch := omega) only [w64]
    refine ev_pos (by omega) (ev_pos (by omega) (ev_pos (by omega) (ev_neg (by omega) (ev_pos (by simp; omega) ?_))))
    rw [Int.toNat_natCast, set_zeros]
    refine ih (by omega) _ _ (hq.cons hqd0 hqd) hm0 hm1 ?_ (by simp; omega)
    rw [drop_rd xs i (by omega)]
    simp only [val]
    rw [← he]
    generalize (10000 * r + rd xs i) / d = s at *
    generalize (10000 * r + rd xs i) % d = u at *
    rw [Int.mul_add, Int.mul_left_comm d 10000]
    omega
theorem divsmall_ev {x d : Int} (hx : 0 ≤ x) (hd0 : 0 < d) (hd : d ≤ B) (hl : (dg D x).length < 1099511627776) :
    Ev (fun k => triviumref02_DivSmall.f k (dg D x) d) (dg D (x / d), x % d) := by
  have := divsmall_l0 (dg D x) d (dg_dig hD x hx) hd0 hd hl _ (Nat.le_refl _) [] 0 Dig.nil (by omega) hd0 (by rw [List.drop_length]; simp [val]) (by simp)
  rw [val_dg hD x hx, List.append_nil] at this
  unfold triviumref02_DivSmall.f
  simp (disch := omega) only [w64, Int.toNat_natCast]
  exact ev_pos (by omega) (ev_pos (by omega) this)
theorem back_l0 : ∀ x : Int, 0 ≤ x → ∀ out : List Int, (dg D x).length < 1099511627776 → out.length + (dg B x).length < 17592186044416 → Ev (fun k => triviumref02_Back.l0 k (dg D x) out) (out ++ dg B x) := by
  refine dg_ind hB ?_ ?_
  · intro out hl ho
    refine ev_succ ?_
    simp only [triviumref02_Back.l0, dg_zero]
    exact ev_neg (by simp) (ev_now (by simp))
  · intro x hx ih out hl ho
    refine ev_succ ?_
    simp only [triviumref02_Back.l0]
    have hne : (dg D x).length ≠ 0 := by
      intro h
      have := (dg_nil_iff hD (Int.le_of_lt hx)).1 (List.length_eq_zero_iff.1 h)
      omega
    have e : (dg B x).length = (dg B (x / B)).length + 1 := by rw [dg_pos hB hx]; rfl
    refine ev_pos (by omega) (ev_bind (divsmall_ev (by omega) (by decide) (Int.le_refl _) hl) (ev_pos (by omega) ?_))
    have hm0 : 0 ≤ x % B := by simp only [B]; omega
    have hm1 : x % B < B := by simp only [B]; omega
    dsimp only
    rw [wu64 hm0 (by simp only [B] at hm1 ⊢; omega)]
    have hle : (dg D (x / B)).length ≤ (dg D x).length := by
      apply dg_len_le hD _ _ (by simp only [B]; omega)
      have h1 := val_lt (b := D) (by decide) (dg_dig hD x (by omega))
      rw [val_dg hD x (by omega)] at h1
      have : x / B ≤ x := by simp only [B]; omega
      omega
    have := ih (out ++ [x % B]) (by omega) (by simp; omega)
    rw [dg_pos hB hx]
    simpa using this
theorem back_ev {x : Int} (hx : 0 ≤ x) (hl : (dg D x).length < 1099511627776) : Ev (fun k => triviumref02_Back.f k (dg D x)) (dg B x) := by
  have hle : (dg B x).length ≤ (dg D x).length := by
    apply dg_len_le hB _ _ hx
    have h1 := val_lt (b := D) (by decide) (dg_dig hD x (by omega))
    rw [val_dg hD x (by omega)] at h1
    exact Int.lt_of_lt_of_le h1 (pow_base_mono (by decide) (by decide) _)
  have := back_l0 x hx [] hl (by simp; omega)
  rw [List.nil_append] at this
  exact this
theorem of_l0 (xs : List Int) (hx : Dig B xs) (hl : xs.length < 1000000000) : ∀ i : Nat, i ≤ xs.length → ∀ acc : Int, 0 ≤ acc → acc < B ^ (xs.length - i) →
    Ev (fun k => triviumref02_Of.l0 k xs (dg D acc) ((i : Int) - 1)) (dg D (acc * B ^ i + val B (xs.take i))) := by
  intro i
  induction i with
  | zero =>
    intro hi acc h0 h1
    refine ev_succ ?_
    simp only [triviumref02_Of.l0]
    refine ev_neg (by omega) (ev_now ?_)
    simp [val]
  | succ i ih =>
    intro hi acc h0 h1
    have ha := rd_nonneg_lt hx (show i < xs.length by omega)
    have hal : (dg D acc).length < 1099511627776 := by
      have : (dg D acc).length ≤ 32 * (xs.length - (i + 1)) := len_le hD h0 (by
        have e : (B : Int) = 2 ^ 32 := by decide
        rw [e, ← Int.pow_mul] at h1; exact h1)
      omega
    refine ev_succ ?_
    simp only [triviumref02_Of.l0, cast_pred]
    have e1 : wrap64 (Int.tmod (rd xs i) 4294967296) = rd xs i := by
      rw [emod_tmod ha.1, Int.emod_eq_of_lt ha.1 ha.2, w64 (by omega) (by have := ha.2; simp only [B] at this; omega)]
    rw [e1]
    simp (disch := omega) only [w64]
    refine ev_pos (by omega) (ev_pos (by omega) (ev_pos (by omega) (ev_bind (muladd_ev h0 (by decide) (Int.le_refl _) ha.1 (by omega) hal) ?_)))
    have h2 : acc * B + rd xs i < B ^ (xs.length - i) := by
      have e : xs.length - i = (xs.length - (i + 1)) + 1 := by omega
      rw [e, Int.pow_succ]
      have h3 : (acc + 1) * B ≤ B ^ (xs.length - (i + 1)) * B := Int.mul_le_mul_of_nonneg_right (by omega) (by decide)
      rw [Int.add_mul] at h3
      omega
    have := ih (by omega) (acc * B + rd xs i) (by have := Int.mul_nonneg h0 (show (0 : Int) ≤ B by decide); omega) h2
    have e3 : (acc * B + rd xs i) * B ^ i + val B (xs.take i) = acc * B ^ (i + 1) + val B (xs.take (i + 1)) := by
      rw [take_succ_rd xs i (by omega), val_append, List.length_take, Nat.min_eq_left (by omega), Int.pow_succ, Int.add_mul]
      simp only [val, Int.mul_zero, Int.add_zero]
      rw [Int.mul_comm (rd xs ↑i) (B ^ i), Int.mul_assoc acc, Int.mul_comm B]
      omega
    rw [e3] at this
    exact this
theorem of_dig (xs : List Int) (hx : Dig B xs) (hl : xs.length < 1000000000) : Ev (fun k => triviumref02_Of.f k xs) (dg D (val B xs)) := by
  have := of_l0 xs hx hl _ (Nat.le_refl _) 0 (Int.le_refl _) (by rw [Nat.sub_self]; decide)
  rw [dg_zero, List.take_length, Int.zero_mul, Int.zero_add] at this
  unfold triviumref02_Of.f
  simp (disch := omega) only [w64]
  exact this
theorem of_ev {x : Int} (hx : 0 ≤ x) (hl : (dg B x).length < 1000000000) : Ev (fun k => triviumref02_Of.f k (dg B x)) (dg D x) := by
  have := of_dig (dg B x) (dg_dig hB x hx) hl
  rwa [val_dg hB x hx] at this
end Go.K

end
section
set_option linter.unusedVariables false
set_option linter.unusedSimpArgs false
set_option maxRecDepth 8000
namespace Go.K
open Go Go.RowKit
theorem limb_add {a b c : Int} (ha0 : 0 ≤ a) (ha : a < B) (hb0 : 0 ≤ b) (hb : b < B) (hc0 : 0 ≤ c) (hc : c < B) : limb_Add.f a b c = some ((a + b + c) % B, (a + b + c) / B) := by
  simp only [B] at *
  unfold limb_Add.f
  rw [mask32 ha0 (by omega), mask32 hb0 (by omega), mask32 hc0 (by omega), Int.emod_eq_of_lt ha0 ha, Int.emod_eq_of_lt hb0 hb, Int.emod_eq_of_lt hc0 hc]
  simp (disch := omega) only [wu64]
  rw [mask32 (by omega) (by omega)]
theorem limb_sub {a b c : Int} (ha0 : 0 ≤ a) (ha : a < B) (hb0 : 0 ≤ b) (hb : b < B) (hc0 : 0 ≤ c) (hc : c ≤ 1) :
    limb_Sub.f a b c = some (if a < b + c then (a + B - (b + c), 1) else (a - (b + c), 0)) := by
  simp only [B] at *
  unfold limb_Sub.f
  rw [mask32 ha0 (by omega), mask32 hb0 (by omega), mask32 hc0 (by omega), Int.emod_eq_of_lt ha0 ha, Int.emod_eq_of_lt hb0 hb, Int.emod_eq_of_lt hc0 (show c < 4294967296 by omega)]
  by_cases h : a < b + c
  · rw [wu64 (x := b + c) (by omega) (by omega), if_pos h, if_pos h, wu64 (x := b + c - a) (by omega) (by omega), wu64 (x := b + c - a + 4294967295) (by omega) (by omega)]
    have e : (b + c - a + 4294967295) / 4294967296 = 1 := by omega
    rw [e, Int.one_mul, wu64 (x := (4294967296 : Int)) (by omega) (by omega), wu64 (x := a + 4294967296) (by omega) (by omega), wu64 (by omega) (by omega)]
  · rw [wu64 (x := b + c) (by omega) (by omega), if_neg h, if_neg h]
    simp (disch := omega) only [wu64, Int.zero_mul, Int.add_zero]
theorem rd_ge (xs : List Int) {i : Int} (h : (xs.length : Int) ≤ i) : rd xs i = 0 := by
  unfold rd
  rw [List.getD, List.getElem?_eq_none (by omega)]; rfl
theorem at_eq (xs : List Int) {i : Int} (h : 0 ≤ i) : nat_at.f xs i = some (rd xs i) := by
  unfold nat_at.f
  by_cases hi : i ≥ (xs.length : Int)
  · rw [if_pos hi, rd_ge xs hi]
  · rw [if_neg hi, if_pos h, if_pos (by omega)]
theorem val_drop (b : Int) (xs : List Int) (i : Nat) : val b (xs.drop i) = rd xs i + b * val b (xs.drop (i + 1)) := by
  by_cases h : i < xs.length
  · rw [drop_rd xs i h]; rfl
  · rw [List.drop_eq_nil_of_le (by omega), List.drop_eq_nil_of_le (by omega), rd_ge xs (by omega)]; simp [val]
theorem dig_rd0 {b : Int} (hb : 0 < b) {xs : List Int} (h : Dig b xs) (i : Nat) : 0 ≤ rd xs i ∧ rd xs i < b := by
  by_cases hi : i < xs.length
  · exact rd_nonneg_lt h hi
  · rw [rd_ge xs (by omega)]; omega
theorem set_pre (pre : List Int) (m : Nat) (v : Int) {i : Nat} (h : pre.length = i) : (pre ++ List.replicate (m + 1) 0).set i v = (pre ++ [v]) ++ List.replicate m 0 := by
  subst h
  rw [List.set_append_right _ _ (Nat.le_refl _), Nat.sub_self, List.replicate_succ, List.set_cons_zero]
  simp
theorem mx_nat (a b : Nat) : mx (a : Int) (b : Int) = ((max a b : Nat) : Int) := by unfold mx; split <;> omega
theorem add_l0 (xs ys : List Int) (hx : Dig B xs) (hy : Dig B ys) (n : Nat) (hn : n = max xs.length ys.length) (hl : n < 1099511627776) : ∀ d i : Nat, n - i = d → i ≤ n → ∀ (pre : List Int) (c : Int), Dig B pre → pre.length = i → 0 ≤ c → c ≤ 1 →
    Ev (fun k => nat_Add.l0 k xs ys n (pre ++ List.replicate (n + 1 - i) 0) c n i) (dg B (val B pre + B ^ i * (c + val B (xs.drop i) + val B (ys.drop i)))) := by
  intro d
  induction d with
  | zero =>
    intro i hd hi pre c hp hpl hc0 hc
    have hin : i = n := by omega
    subst hin
    refine ev_succ ?_
    simp only [nat_Add.l0]
    rw [show i + 1 - i = 0 + 1 by omega, Int.toNat_natCast, set_pre pre 0 c hpl, List.drop_eq_nil_of_le (by omega), List.drop_eq_nil_of_le (by omega)]
    refine ev_neg (by omega) (ev_pos (by omega) (ev_pos (by simp; omega) (ev_bind (trim_ev _ (by simp; omega)) (ev_now ?_))))
    have hdg : Dig B (pre ++ [c] ++ List.replicate 0 0) := by
      simp only [List.replicate_zero, List.append_nil]
      exact hp.append (Dig.nil.cons hc0 (by simp only [B]; omega))
    rw [strip_dg hB hdg]
    simp only [List.replicate_zero, List.append_nil, val_append, val, hpl, Int.mul_zero, Int.add_zero]
  | succ d ih =>
    intro i hd hi pre c hp hpl hc0 hc
    have h1 := dig_rd0 (by decide) hx i
    have h2 := dig_rd0 (by decide) hy i
    refine ev_succ ?_
    simp only [nat_Add.l0]
    rw [show n + 1 - i = (n - i) + 1 by omega, Int.toNat_natCast]
    refine ev_pos (by omega) (ev_eq (at_eq xs (by omega)) (ev_eq (at_eq ys (by omega)) (ev_eq (limb_add h1.1 h1.2 h2.1 h2.2 hc0 (by simp only [B]; omega)) ?_)))
    simp only [B] at h1 h2
    dsimp only
    rw [set_pre pre (n - i) _ hpl]
    simp (disch := omega) only [w64]
    refine ev_pos (by omega) (ev_pos (by simp; omega) ?_)
    have := ih (i + 1) (by omega) (by omega) (pre ++ [(rd xs i + rd ys i + c) % B]) ((rd xs i + rd ys i + c) / B) (hp.append (Dig.nil.cons (by simp only [B]; omega) (by simp only [B]; omega))) (by simp [hpl]) (by simp only [B]; omega) (by simp only [B]; omega)
    rw [show n + 1 - (i + 1) = n - i by omega] at this
    have e : val B (pre ++ [(rd xs i + rd ys i + c) % B]) + B ^ (i + 1) * ((rd xs i + rd ys i + c) / B + val B (xs.drop (i + 1)) + val B (ys.drop (i + 1))) = val B pre + B ^ i * (c + val B (xs.drop i) + val B (ys.drop i)) := by
      rw [val_append, hpl, val_drop B xs i, val_drop B ys i, Int.pow_succ, Int.mul_assoc, Int.add_assoc, ← Int.mul_add]
      congr 2
      simp only [val, B, Int.mul_zero, Int.add_zero]
      omega
    rw [e] at this
    exact this
theorem add_dig (xs ys : List Int) (hx : Dig B xs) (hy : Dig B ys) (hl1 : xs.length < 1099511627776) (hl2 : ys.length < 1099511627776) : Ev (fun k => nat_Add.f k xs ys) (dg B (val B xs + val B ys)) := by
  have := add_l0 xs ys hx hy (max xs.length ys.length) rfl (by omega) _ 0 rfl (by omega) [] 0 Dig.nil rfl (Int.le_refl _) (by decide)
  unfold nat_Add.f
  rw [mx_nat]
  simp (disch := omega) only [w64]
  refine ev_pos (by omega) (ev_pos (by omega) ?_)
  rw [show (((max xs.length ys.length : Nat) : Int) + 1).toNat = max xs.length ys.length + 1 by omega]
  simpa [val] using this
theorem add_ev {x y : Int} (hx : 0 ≤ x) (hy : 0 ≤ y) (hl1 : (dg B x).length < 1099511627776) (hl2 : (dg B y).length < 1099511627776) : Ev (fun k => nat_Add.f k (dg B x) (dg B y)) (dg B (x + y)) := by
  have := add_dig _ _ (dg_dig hB x hx) (dg_dig hB y hy) hl1 hl2
  rwa [val_dg hB x hx, val_dg hB y hy] at this
theorem sub_l0 (xs ys : List Int) (hx : Dig B xs) (hy : Dig B ys) (hle : ys.length ≤ xs.length) (hv : val B ys ≤ val B xs) (hl : xs.length < 1099511627776) : ∀ d i : Nat, xs.length - i = d → i ≤ xs.length → ∀ (pre : List Int) (c : Int), Dig B pre → pre.length = i → 0 ≤ c → c ≤ 1 →
    val B pre + B ^ i * (val B (xs.drop i) - val B (ys.drop i) - c) = val B xs - val B ys →
    Ev (fun k => nat_Sub.l0 k xs ys (pre ++ List.replicate (xs.length - i) 0) c xs.length i) (dg B (val B xs - val B ys), 0) := by
  intro d
  induction d with
  | zero =>
    intro i hd hi pre c hp hpl hc0 hc he
    have hin : i = xs.length := by omega
    subst hin
    refine ev_succ ?_
    simp only [nat_Sub.l0]
    rw [Nat.sub_self, List.replicate_zero, List.append_nil]
    refine ev_neg (by omega) (ev_bind (trim_ev _ (by omega)) (ev_now ?_))
    rw [List.drop_eq_nil_of_le (by omega), List.drop_eq_nil_of_le (by omega)] at he
    simp only [val, Int.sub_self, Int.zero_sub] at he
    have h1 := val_lt (b := B) (by decide) hp
    rw [hpl] at h1
    have hc : c = 0 := by
      rcases (show c = 0 ∨ c = 1 by omega) with h | h
      · exact h
      · rw [h, Int.mul_neg, Int.mul_one] at he; omega
    rw [hc, Int.neg_zero, Int.mul_zero, Int.add_zero] at he
    rw [strip_dg hB hp, he]
  | succ d ih =>
    intro i hd hi pre c hp hpl hc0 hc he
    have h1 := dig_rd0 (by decide) hx i
    have h2 := dig_rd0 (by decide) hy i
    refine ev_succ ?_
    simp only [nat_Sub.l0]
    rw [show xs.length - i = (xs.length - (i + 1)) + 1 by omega, Int.toNat_natCast]
    refine ev_pos (by omega) (ev_pos (by omega) (ev_pos (by omega) (ev_eq (at_eq ys (by omega)) (ev_eq (limb_sub h1.1 h1.2 h2.1 h2.2 hc0 hc) ?_))))
    rw [set_pre pre _ _ hpl]
    simp (disch := omega) only [w64]
    refine ev_pos (by simp; omega) ?_
    rw [cast_succ]
    have step : ∀ v c' : Int, 0 ≤ v → v < B → v - B * c' = rd xs i - rd ys i - c → val B (pre ++ [v]) + B ^ (i + 1) * (val B (xs.drop (i + 1)) - val B (ys.drop (i + 1)) - c') = val B xs - val B ys := by
      intro v c' hv0 hv1 hvc
      rw [← he, val_append, hpl, val_drop B xs i, val_drop B ys i, Int.pow_succ, Int.mul_assoc, Int.add_assoc, ← Int.mul_add]
      congr 2
      simp only [val, B, Int.mul_zero, Int.add_zero] at *
      omega
    by_cases h : rd xs i < rd ys i + c
    · rw [if_pos h]
      simp only [B] at h1 h2
      exact ih (i + 1) (by omega) (by omega) (pre ++ [rd xs i + B - (rd ys i + c)]) 1 (hp.append (Dig.nil.cons (by simp only [B]; omega) (by simp only [B]; omega))) (by simp [hpl]) (by omega) (by omega) (step _ _ (by simp only [B]; omega) (by simp only [B]; omega) (by simp only [B]; omega))
    · rw [if_neg h]
      simp only [B] at h1 h2
      exact ih (i + 1) (by omega) (by omega) (pre ++ [rd xs i - (rd ys i + c)]) 0 (hp.append (Dig.nil.cons (by (try simp only [B]); omega) (by (try simp only [B]); omega))) (by simp [hpl]) (by omega) (by omega) (step _ _ (by (try simp only [B]); omega) (by (try simp only [B]); omega) (by (try simp only [B]); omega))
theorem dg_len_mono {b x y : Int} (hb : 2 ≤ b) (hx : 0 ≤ x) (h : x ≤ y) : (dg b x).length ≤ (dg b y).length := by
  apply dg_len_le hb _ _ hx
  have h1 := val_lt (b := b) (by omega) (dg_dig hb y (by omega))
  rw [val_dg hb y (by omega)] at h1
  omega
theorem sub_ev {x y : Int} (hy : 0 ≤ y) (hxy : y ≤ x) (hl1 : (dg B x).length < 1099511627776) : Ev (fun k => nat_Sub.f k (dg B x) (dg B y)) (dg B (x - y), 0) := by
  have hx : 0 ≤ x := by omega
  unfold nat_Sub.f
  refine ev_bind (cmp_ev hx hy (by omega)) (ev_neg ?_ (ev_pos (by omega) (ev_pos (by omega) ?_)))
  · unfold cmpI; split <;> (try split) <;> omega
  · simp only [Option.bind_some, List.length_replicate, Int.toNat_natCast]
    have hle := dg_len_mono hB hy hxy
    have := sub_l0 (dg B x) (dg B y) (dg_dig hB x hx) (dg_dig hB y hy) hle (by rw [val_dg hB x hx, val_dg hB y hy]; exact hxy) hl1 _ 0 rfl (by omega) [] 0 Dig.nil rfl (Int.le_refl _) (by decide) (by simp [val])
    rw [val_dg hB x hx, val_dg hB y hy] at this
    exact this
theorem sub_less {x y : Int} (hx : 0 ≤ x) (hxy : x < y) (hl1 : (dg B x).length < 1099511627776) : Ev (fun k => nat_Sub.f k (dg B x) (dg B y)) ([], 6) := by
  unfold nat_Sub.f
  exact ev_bind (cmp_ev hx (by omega) (by omega)) (ev_pos (by unfold cmpI; rw [if_pos hxy]; omega) (ev_now rfl))
theorem rsub_l0 (xs ys : List Int) (hx : Dig D xs) (hy : Dig D ys) (hle : ys.length ≤ xs.length) (hv : val D ys ≤ val D xs) (hl : xs.length < 1099511627776) : ∀ d i : Nat, xs.length - i = d → i ≤ xs.length → ∀ (pre : List Int) (c : Int), Dig D pre → pre.length = i → 0 ≤ c → c ≤ 1 →
    val D pre + D ^ i * (val D (xs.drop i) - val D (ys.drop i) - c) = val D xs - val D ys →
    Ev (fun k => triviumref02_Sub.l0 k xs ys pre c i) (dg D (val D xs - val D ys)) := by
  intro d
  induction d with
  | zero =>
    intro i hd hi pre c hp hpl hc0 hc he
    have hin : i = xs.length := by omega
    subst hin
    refine ev_succ ?_
    simp only [triviumref02_Sub.l0]
    refine ev_neg (by omega) (ev_bind (rtrim_ev _ (by omega)) (ev_now ?_))
    rw [List.drop_eq_nil_of_le (by omega), List.drop_eq_nil_of_le (by omega)] at he
    simp only [val, Int.sub_self, Int.zero_sub] at he
    have h1 := val_lt (b := D) (by decide) hp
    rw [hpl] at h1
    have hc : c = 0 := by
      rcases (show c = 0 ∨ c = 1 by omega) with h | h
      · exact h
      · rw [h, Int.mul_neg, Int.mul_one] at he; omega
    rw [hc, Int.neg_zero, Int.mul_zero, Int.add_zero] at he
    rw [strip_dg hD hp, he]
  | succ d ih =>
    intro i hd hi pre c hp hpl hc0 hc he
    have h1 := dig_rd0 (by decide) hx i
    have h2 := dig_rd0 (by decide) hy i
    have step : ∀ v c' : Int, 0 ≤ v → v < D → v - D * c' = rd xs i - rd ys i - c → 0 ≤ c' → c' ≤ 1 → Ev (fun k => triviumref02_Sub.l0 k xs ys (pre ++ [v]) c' ((i : Int) + 1)) (dg D (val D xs - val D ys)) := by
      intro v c' hv0 hv1 hvc hc0' hc'
      rw [cast_succ]
      refine ih (i + 1) (by omega) (by omega) (pre ++ [v]) c' (hp.append (Dig.nil.cons hv0 hv1)) (by simp [hpl]) hc0' hc' ?_
      rw [← he, val_append, hpl, val_drop D xs i, val_drop D ys i, Int.pow_succ, Int.mul_assoc, Int.add_assoc, ← Int.mul_add]
      congr 2
      simp only [val, D, Int.mul_zero, Int.add_zero] at *
      omega
    refine ev_succ ?_
    simp only [triviumref02_Sub.l0]
    simp only [D] at h1 h2 step
    simp (disch := omega) only [w64]
    refine ev_pos (by omega) (ev_pos (by omega) (ev_ite (fun ha => ev_ite (fun hb => ev_pos (by omega) (step _ _ ?_ ?_ ?_ ?_ ?_)) (fun hb => ev_pos (by omega) (step _ _ ?_ ?_ ?_ ?_ ?_))) (fun ha => ?_)))
    all_goals first
      | omega
      | (have hz := rd_ge ys (i := (i : Int)) (by omega)
         refine ev_ite (fun hb => ev_pos (by omega) (step _ _ ?_ ?_ ?_ ?_ ?_)) (fun hb => ev_pos (by omega) (step _ _ ?_ ?_ ?_ ?_ ?_)) <;> omega)
theorem rsub_ev {x y : Int} (hy : 0 ≤ y) (hxy : y ≤ x) (hl1 : (dg D x).length < 1099511627776) : Ev (fun k => triviumref02_Sub.f k (dg D x) (dg D y)) (dg D (x - y)) := by
  have hx : 0 ≤ x := by omega
  have := rsub_l0 (dg D x) (dg D y) (dg_dig hD x hx) (dg_dig hD y hy) (dg_len_mono hD hy hxy) (by rw [val_dg hD x hx, val_dg hD y hy]; exact hxy) hl1 _ 0 rfl (by omega) [] 0 Dig.nil rfl (Int.le_refl _) (by decide) (by simp [val])
  rw [val_dg hD x hx, val_dg hD y hy] at this
  exact this
end Go.K

end
section
set_option linter.unusedVariables false
set_option linter.unusedSimpArgs false
set_option maxRecDepth 8000
namespace Go.K
open Go Go.RowKit
theorem num_ev {n : Int} (h0 : 0 ≤ n) (h1 : n ≤ B) : Ev (fun k => triviumref02_Num.f k n) (dg D n) := by
  unfold triviumref02_Num.f
  have := muladd_ev (x := 0) (m := 1) (c := n) (by omega) (by omega) (by decide) h0 h1 (by rw [dg_zero]; simp)
  rw [dg_zero, Int.zero_mul, Int.zero_add] at this
  exact ev_bind this (ev_now rfl)
theorem val_set (b : Int) : ∀ (xs : List Int) (i : Nat) (v : Int), i < xs.length → val b (xs.set i v) = val b xs + b ^ i * (v - rd xs i)
  | [], i, v, h => by simp at h
  | x :: xs, 0, v, h => by simp [val, rd]; omega
  | x :: xs, i + 1, v, h => by
    have ih := val_set b xs i v (by simpa using h)
    have e : rd (x :: xs) ((i + 1 : Nat) : Int) = rd xs (i : Int) := by simp [rd]
    rw [List.set_cons_succ, val, val, ih, e, Int.pow_succ]
    generalize val b xs = w
    generalize b ^ i = p
    grind
theorem Dig.set {b : Int} {xs : List Int} (h : Dig b xs) (i : Nat) {v : Int} (h0 : 0 ≤ v) (h1 : v < b) : Dig b (xs.set i v) := by
  intro y hy
  rcases List.mem_or_eq_of_mem_set hy with hy | rfl
  · exact h y hy
  · exact ⟨h0, h1⟩
theorem val_take_succ (b : Int) (xs : List Int) (i : Nat) (h : i < xs.length) : val b (xs.take (i + 1)) = val b (xs.take i) + b ^ i * rd xs i := by
  rw [take_succ_rd xs i h, val_append, List.length_take, Nat.min_eq_left (by omega)]
  simp [val]
theorem mul_lt_pow {b x y : Int} (hb : 0 < b) {m n : Nat} (hx0 : 0 ≤ x) (hx : x < b ^ m) (hy0 : 0 ≤ y) (hy : y < b ^ n) : x * y < b ^ (m + n) := by
  rw [Int.pow_add]
  have hp : (0 : Int) < b ^ m := Int.pow_pos hb
  have h1 : x * y ≤ b ^ m * y := Int.mul_le_mul_of_nonneg_right (Int.le_of_lt hx) hy0
  have h2 : b ^ m * y < b ^ m * b ^ n := Int.mul_lt_mul_of_pos_left hy hp
  omega
section
variable (xs ys : List Int) (hx : Dig D xs) (hy : Dig D ys) (hl : xs.length + ys.length < 1099511627776)
include hx hy hl
end
theorem div_uniq {a b q r : Int} (hb : 0 < b) (hr0 : 0 ≤ r) (hr : r < b) (h : b * q + r = a) : a / b = q ∧ a % b = r := by
  subst h
  exact ⟨by rw [Int.mul_add_ediv_left _ _ (by omega), Int.ediv_eq_zero_of_lt hr0 hr, Int.add_zero], by rw [Int.mul_add_emod_self_left, Int.emod_eq_of_lt hr0 hr]⟩
section
variable (xs : List Int) (hx : Dig D xs) (y : Int) (hy : 0 < y) (hl : xs.length < 549755813887) (hyl : (dg D y).length < 549755813887)
include hx hy hl hyl
theorem div_l1 (i : Nat) (hi : i < xs.length) (res : List Int × List Int) (q : List Int) (r' : Int) (hr0 : 0 ≤ r') (hr : r' < D * y)
    (K : ∀ lo : Int, 0 ≤ lo → lo < D → lo * y ≤ r' → r' < (lo + 1) * y → Ev (fun k => triviumref02_Div.l0 k xs (dg D y) (List.replicate i 0 ++ lo :: q) (dg D (r' - lo * y)) ((i : Int) - 1)) res) :
    ∀ (n : Nat) (lo hi : Int), (hi - lo).toNat = n → 0 ≤ lo → lo < hi → hi ≤ 10000 → lo * y ≤ r' → r' < hi * y →
    Ev (fun k => triviumref02_Div.l1 k xs (dg D y) (List.replicate (i + 1) 0 ++ q) (dg D r') (i : Int) lo hi) res := by
  have hrl : (dg D r').length ≤ (dg D y).length + 1 := by
    refine dg_len_le hD _ _ hr0 ?_
    have h1 := val_lt (b := D) (by decide) (dg_dig hD y (by omega))
    rw [val_dg hD y (by omega)] at h1
    rw [Int.pow_succ, Int.mul_comm]
    exact Int.lt_of_lt_of_le hr (Int.mul_le_mul_of_nonneg_left (Int.le_of_lt h1) (by decide))
  intro n
  induction n using Nat.strongRecOn with
  | ind n ih =>
    intro lo hi' hn h0 hlh hh hlo hhi
    refine ev_succ ?_
    simp only [triviumref02_Div.l1]
    have hB' : (10000 : Int) ≤ B := by decide
    simp (disch := omega) only [w64, ediv_tdiv]
    refine ev_ite (fun hgt => ?_) (fun hle => ?_)
    · have hm0 : 0 ≤ (lo + hi') / 2 := by omega
      refine ev_bind (muladd_ev (by omega) hm0 (by omega) (Int.le_refl _) (by decide) (by omega)) ?_
      rw [Int.add_zero, Int.mul_comm y]
      have hmy : 0 ≤ (lo + hi') / 2 * y := Int.mul_nonneg hm0 (by omega)
      have hml : (dg D ((lo + hi') / 2 * y)).length < 17592186044416 := by
        have : (dg D ((lo + hi') / 2 * y)).length ≤ (dg D y).length + 1 := by
          refine dg_len_le hD _ _ hmy ?_
          have h1 := val_lt (b := D) (by decide) (dg_dig hD y (by omega))
          rw [val_dg hD y (by omega)] at h1
          rw [Int.pow_succ, Int.mul_comm _ (D : Int)]
          have h2 : (lo + hi') / 2 * y ≤ (D - 1) * y := Int.mul_le_mul_of_nonneg_right (by simp only [D]; omega) (by omega)
          have h3 : (D : Int) * y ≤ D * D ^ (dg D y).length := Int.mul_le_mul_of_nonneg_left (Int.le_of_lt h1) (by decide)
          rw [Int.sub_mul, Int.one_mul] at h2
          omega
        omega
      refine ev_bind (rcmp_ev hmy hr0 hml) (ev_ite (fun hc => ?_) (fun hc => ?_))
      · refine ih _ ?_ _ _ rfl hm0 (by omega) hh ?_ hhi
        · omega
        · unfold cmpI at hc; split at hc
          · omega
          · split at hc <;> omega
      · refine ih _ ?_ _ _ rfl h0 (by omega) (by omega) hlo ?_
        · omega
        · unfold cmpI at hc; split at hc
          · omega
          · split at hc <;> omega
    · have he : hi' = lo + 1 := by omega
      subst he
      refine ev_pos (by omega) (ev_pos (by simp; omega) (ev_bind (muladd_ev (by omega) h0 (by omega) (Int.le_refl _) (by decide) (by omega)) ?_))
      rw [Int.add_zero, Int.mul_comm y]
      refine ev_bind (rsub_ev (Int.mul_nonneg h0 (by omega)) hlo (by omega)) ?_
      rw [Int.toNat_natCast, set_zeros]
      exact K lo h0 (by simp only [D]; omega) hlo hhi
theorem div_l0 : ∀ i : Nat, i ≤ xs.length → ∀ (q : List Int) (r : Int), Dig D q → 0 ≤ r → r < y → y * val D q + r = val D (xs.drop i) → q.length + i = xs.length →
    Ev (fun k => triviumref02_Div.l0 k xs (dg D y) (List.replicate i 0 ++ q) (dg D r) ((i : Int) - 1)) (dg D (val D xs / y), dg D (val D xs % y)) := by
  intro i
  induction i with
  | zero =>
    intro hi q r hq hr0 hr he hlq
    refine ev_succ ?_
    simp only [triviumref02_Div.l0]
    refine ev_neg (by omega) (ev_bind (rtrim_ev _ (by simp; omega)) (ev_now ?_))
    rw [List.drop_zero] at he
    obtain ⟨e1, e2⟩ := div_uniq hy hr0 hr he
    rw [e1, e2]
    simp only [List.replicate_zero, List.nil_append]
    rw [strip_dg hD hq]
  | succ i ih =>
    intro hi q r hq hr0 hr he hlq
    have ha := rd_nonneg_lt hx (show i < xs.length by omega)
    refine ev_succ ?_
    simp only [triviumref02_Div.l0, cast_pred, Option.bind_some]
    have hrl := dg_len_mono hD hr0 (Int.le_of_lt hr)
    have hr'0 : 0 ≤ rd xs i + D * r := by have := Int.mul_nonneg (show (0 : Int) ≤ D by decide) hr0; omega
    have hr' : rd xs i + D * r < D * y := by
      have := Int.mul_le_mul_of_nonneg_left (show r + 1 ≤ y by omega) (show (0 : Int) ≤ D by decide)
      rw [Int.mul_add] at this
      omega
    have hdr : Dig D ([rd xs i] ++ dg D r) := (dg_dig hD r hr0).cons ha.1 ha.2
    have hev : strip ([rd xs i] ++ dg D r) = dg D (rd xs i + D * r) := by
      rw [strip_dg hD hdr]
      simp only [List.cons_append, List.nil_append, val, val_dg hD r hr0]
    refine ev_pos (by omega) (ev_pos (by omega) (ev_pos (by omega) (ev_pos (by simp; omega) (ev_bind (rtrim_ev _ (by simp; omega)) ?_))))
    rw [hev]
    refine div_l1 xs hx y hy hl hyl i (by omega) _ q _ hr'0 hr' ?_ _ 0 10000 rfl (by omega) (by omega) (by omega) (by omega) hr'
    intro lo h0 h1 h2 h3
    refine ih (by omega) _ _ (hq.cons h0 h1) (by omega) (by rw [Int.add_mul, Int.one_mul] at h3; omega) ?_ (by simp; omega)
    rw [drop_rd xs i (by omega)]
    simp only [val]
    rw [← he]
    generalize val D q = s
    generalize (D : Int) = dd
    grind
end
theorem rdiv_ev {x y : Int} (hx : 0 ≤ x) (hy : 0 < y) (hl1 : (dg D x).length < 549755813887) (hl2 : (dg D y).length < 549755813887) : Ev (fun k => triviumref02_Div.f k (dg D x) (dg D y)) (dg D (x / y), dg D (x % y)) := by
  have := div_l0 (dg D x) (dg_dig hD x hx) y hy hl1 hl2 _ (Nat.le_refl _) [] 0 Dig.nil (by omega) hy (by rw [List.drop_length]; simp [val]) (by simp)
  rw [val_dg hD x hx, List.append_nil, dg_zero] at this
  unfold triviumref02_Div.f
  simp (disch := omega) only [w64, Int.toNat_natCast]
  exact ev_pos (by omega) (ev_pos (by omega) this)
end Go.K

end
section
set_option linter.unusedVariables false
set_option linter.unusedSimpArgs false
set_option maxRecDepth 8000
namespace Go.K
open Go Go.RowKit
theorem len2_eq {x : Int} {n : Nat} (h0 : 2 ^ n ≤ x) (h1 : x < 2 ^ (n + 1)) : (dg 2 x).length = n + 1 := by
  have hp : (0 : Int) < 2 ^ n := Int.pow_pos (by decide)
  have a := dg_len_le (b := 2) (by decide) (n + 1) x (by omega) h1
  have c := dg_len_ge (b := 2) (by decide) n x (by omega) h0
  omega
theorem emod_pow_succ (x : Int) (k : Nat) : x % 2 ^ (k + 1) = x % 2 ^ k + 2 ^ k * (x / 2 ^ k % 2) := by
  have hp : (0 : Int) < 2 ^ k := Int.pow_pos (by decide)
  have h1 := Int.mul_ediv_add_emod x (2 ^ k)
  have h2 := Int.mul_ediv_add_emod (x / 2 ^ k) 2
  have h3 : (0 : Int) ≤ x % 2 ^ k := Int.emod_nonneg _ (by omega)
  have h4 : x % 2 ^ k < 2 ^ k := Int.emod_lt_of_pos _ hp
  have h5 : (x / 2 ^ k % 2) = 0 ∨ (x / 2 ^ k % 2) = 1 := by omega
  have e : x = 2 ^ (k + 1) * (x / 2 ^ k / 2) + (x % 2 ^ k + 2 ^ k * (x / 2 ^ k % 2)) := by
    have : (2 : Int) ^ (k + 1) * (x / 2 ^ k / 2) = 2 ^ k * (2 * (x / 2 ^ k / 2)) := by rw [Int.pow_succ, Int.mul_assoc]
    rw [this]
    have : 2 ^ k * (2 * (x / 2 ^ k / 2)) + 2 ^ k * (x / 2 ^ k % 2) = 2 ^ k * (x / 2 ^ k) := by rw [← Int.mul_add, h2]
    omega
  conv => lhs; rw [e]
  rw [Int.mul_add_emod_self_left, Int.emod_eq_of_lt]
  · rcases h5 with h | h <;> rw [h] <;> omega
  · rw [Int.pow_succ]
    rcases h5 with h | h <;> rw [h] <;> omega
theorem shr_eq {x : Int} (i : Nat) (hi : i ≤ 64) : shr .u64 x (i : Int) = x / 2 ^ i := by
  unfold shr
  rw [Int.toNat_natCast, show min i IntKind.u64.bits = i by simp [IntKind.bits]; omega]
theorem shl_eq {x : Int} (i : Nat) (hi : i ≤ 64) (h0 : 0 ≤ x * 2 ^ i) (h1 : x * 2 ^ i ≤ 18446744073709551615) : shl .u64 x (i : Int) = x * 2 ^ i := by
  unfold shl
  rw [Int.toNat_natCast, show min i IntKind.u64.bits = i by simp [IntKind.bits]; omega, wu64 h0 h1]
theorem ediv_le_self' {x : Int} (h : 0 ≤ x) (k : Nat) : 0 ≤ x / 2 ^ k ∧ x / 2 ^ k ≤ x := by
  have hp : (0 : Int) < 2 ^ k := Int.pow_pos (by decide)
  exact ⟨Int.ediv_nonneg h (by omega), Int.ediv_le_self _ h⟩
theorem limb_bits_l0 {x : Int} (h0 : 0 ≤ x) (h1 : x < B) : ∀ d i : Nat, 32 - i = d → i ≤ 32 → Ev (fun k => limb_Bits.l0 k x ((dg 2 (x % 2 ^ i)).length : Int) i) ((dg 2 x).length : Int) := by
  intro d
  induction d with
  | zero =>
    intro i hd hi
    have : i = 32 := by omega
    subst this
    refine ev_succ ?_
    simp only [limb_Bits.l0]
    refine ev_neg (by omega) (ev_now ?_)
    rw [Int.emod_eq_of_lt h0 (by simp only [B] at h1; omega)]
  | succ d ih =>
    intro i hd hi
    have hs := ediv_le_self' h0 i
    simp only [B] at h1
    refine ev_succ ?_
    simp only [limb_Bits.l0]
    rw [shr_eq i (by omega), bit1 hs.1 (by omega)]
    simp (disch := omega) only [w64]
    refine ev_pos (by omega) (ev_pos (by omega) ?_)
    have hp : (0 : Int) < 2 ^ i := Int.pow_pos (by decide)
    have a3 : (0 : Int) ≤ x % 2 ^ i := Int.emod_nonneg _ (by omega)
    have a4 : x % 2 ^ i < 2 ^ i := Int.emod_lt_of_pos _ hp
    have := ih (i + 1) (by omega) (by omega)
    rw [emod_pow_succ] at this
    refine ev_ite (fun hb => ?_) (fun hb => ?_)
    · rw [hb, Int.mul_one, len2_eq (n := i) (by omega) (by rw [Int.pow_succ]; omega)] at this
      exact this
    · rw [show x / 2 ^ i % 2 = 0 by omega, Int.mul_zero, Int.add_zero] at this
      exact this
theorem limb_bits {x : Int} (h0 : 0 ≤ x) (h1 : x < B) : Ev (fun k => limb_Bits.f k x) ((dg 2 x).length : Int) := by
  have := limb_bits_l0 h0 h1 _ 0 rfl (by omega)
  rw [show x % 2 ^ 0 = 0 by simp [Int.emod_one], dg_zero] at this
  exact this
theorem rd_last_ne {b n : Int} (hb : 2 ≤ b) : ∀ n : Int, 0 ≤ n → 0 < n → rd (dg b n) (((dg b n).length : Int) - 1) ≠ 0 := by
  refine dg_ind hb ?_ ?_
  · intro h; omega
  · intro n hn ih _
    rw [dg_pos hb hn]
    by_cases hz : n / b = 0
    · rw [hz, dg_zero]
      simp only [List.length_cons, List.length_nil]
      have : n % b = n := by have := Int.mul_ediv_add_emod n b; rw [hz] at this; omega
      rw [this]
      simp [rd]; omega
    · have hq : 0 < n / b := by have : 0 ≤ n / b := Int.ediv_nonneg (by omega) (by omega); omega
      have := ih hq
      have hne : (dg b (n / b)).length ≠ 0 := by
        intro h
        have := (dg_nil_iff hb (Int.le_of_lt hq)).1 (List.length_eq_zero_iff.1 h)
        omega
      obtain ⟨m, hm⟩ : ∃ m, (dg b (n / b)).length = m + 1 := ⟨_, (Nat.succ_pred_eq_of_ne_zero hne).symm⟩
      rw [hm] at this
      rw [List.length_cons, hm]
      simp only [rd] at *
      rw [show (((m + 1 + 1 : Nat) : Int) - 1).toNat = m + 1 by omega]
      rw [show (((m + 1 : Nat) : Int) - 1).toNat = m by omega] at this
      simpa using this
def Tz (x : Int) (z : Nat) : Prop := ∃ o : Int, 0 ≤ o ∧ x = 2 ^ z * (2 * o + 1)
theorem Tz.ex {x : Int} (hx : 0 < x) : ∃ z, Tz x z := by
  refine dg_ind (b := 2) (by decide) (P := fun x => 0 < x → ∃ z, Tz x z) (by intro h; omega) ?_ x (by omega) hx
  intro n hn ih _
  by_cases h : n % 2 = 1
  · exact ⟨0, n / 2, by omega, by simp; omega⟩
  · obtain ⟨z, o, ho, e⟩ := ih (by omega)
    refine ⟨z + 1, o, ho, ?_⟩
    rw [Int.pow_succ, Int.mul_comm (2 ^ z) 2, Int.mul_assoc, ← e]
    omega
theorem Tz.even {x : Int} {z : Nat} (h : Tz x z) : x % 2 = 0 ↔ z ≠ 0 := by
  obtain ⟨o, ho, e⟩ := h
  cases z with
  | zero => simp at e; omega
  | succ z =>
    rw [Int.pow_succ, Int.mul_comm (2 ^ z) 2, Int.mul_assoc] at e
    constructor
    · intro _; omega
    · intro _; omega
theorem Tz.pos {x : Int} {z : Nat} (h : Tz x z) : 0 < x := by
  obtain ⟨o, ho, e⟩ := h
  rw [e]
  exact Int.mul_pos (Int.pow_pos (by decide)) (by omega)
theorem Tz.shift {x : Int} {z : Nat} (h : Tz x z) (n : Nat) : Tz (x * 2 ^ n) (z + n) := by
  obtain ⟨o, ho, e⟩ := h
  refine ⟨o, ho, ?_⟩
  rw [e, Int.pow_add, Int.mul_right_comm]
end Go.K

end
section
set_option linter.unusedVariables false
set_option linter.unusedSimpArgs false
set_option maxRecDepth 8000
namespace Go.K
open Go Go.RowKit
theorem make_l0 (xs : List Int) (hx : Dig B xs) (hl : xs.length < 17592186044416) : ∀ d i : Nat, xs.length - i = d → i ≤ xs.length → Ev (fun k => nat_Make.l0 k (xs.take i) xs xs.length i) (dg B (val B xs), 0) := by
  intro d
  induction d with
  | zero =>
    intro i hd hi
    refine ev_succ ?_
    simp only [nat_Make.l0]
    refine ev_neg (by omega) (ev_bind (trim_ev _ (by rw [List.length_take]; omega)) (ev_now ?_))
    rw [List.take_of_length_le (by omega), strip_dg hB hx]
  | succ d ih =>
    intro i hd hi
    have ha := rd_nonneg_lt hx (show i < xs.length by omega)
    refine ev_succ ?_
    simp only [nat_Make.l0]
    simp (disch := omega) only [w64]
    refine ev_pos (by omega) (ev_pos (by omega) (ev_pos (by omega) (ev_neg (by have := ha.2; simp only [B] at this; omega) (ev_pos (by rw [List.length_take]; omega) ?_))))
    rw [← take_succ_rd xs i (by omega), cast_succ]
    exact ih (i + 1) (by omega) (by omega)
theorem make_dig (xs : List Int) (hx : Dig B xs) (hl : xs.length < 17592186044416) : Ev (fun k => nat_Make.f k xs) (dg B (val B xs), 0) := by
  have := make_l0 xs hx hl _ 0 rfl (by omega)
  unfold nat_Make.f
  exact ev_pos (by omega) (ev_pos (by omega) this)
theorem make_ev {x : Int} (hx : 0 ≤ x) (hl : (dg B x).length < 17592186044416) : Ev (fun k => nat_Make.f k (dg B x)) (dg B x, 0) := by
  have := make_dig _ (dg_dig hB x hx) hl
  rwa [val_dg hB x hx] at this
def MayB (xs : List Int) : Bool := decide (∀ x ∈ xs, x < 4294967296) && (decide (xs.length = 0) || rd xs ((xs.length : Int) - 1) != 0)
theorem all_take (xs : List Int) (i : Nat) (h : i < xs.length) (hi : ∀ x ∈ xs.take i, x < 4294967296) (h2 : rd xs i < 4294967296) : ∀ x ∈ xs.take (i + 1), x < 4294967296 := by
  rw [take_succ_rd xs i h]
  intro x hx
  rcases List.mem_append.1 hx with hx | hx
  · exact hi x hx
  · rw [List.mem_singleton.1 hx]; exact h2
theorem rd_mem (xs : List Int) (i : Nat) (h : i < xs.length) : rd xs i ∈ xs := by
  rw [rd_nat, List.getD, List.getElem?_eq_getElem h]; exact List.getElem_mem h
theorem may_l0 (xs : List Int) (hl : xs.length < 17592186044416) : ∀ d i : Nat, xs.length - i = d → i ≤ xs.length → (∀ x ∈ xs.take i, x < 4294967296) → Ev (fun k => nat_May.l0 k xs xs xs.length i) (MayB xs) := by
  intro d
  induction d with
  | zero =>
    intro i hd hi ha
    rw [List.take_of_length_le (by omega)] at ha
    refine ev_succ ?_
    simp only [nat_May.l0]
    simp (disch := omega) only [w64]
    refine ev_neg (by omega) (ev_ite (fun h => ev_now ?_) (fun h => ev_pos (by omega) (ev_pos (by omega) (ev_now ?_))))
    · have : xs.length = 0 := by omega
      unfold MayB; rw [decide_eq_true ha, decide_eq_true this]; rfl
    · have : ¬ xs.length = 0 := by omega
      unfold MayB; rw [decide_eq_true ha, decide_eq_false this]; rfl
  | succ d ih =>
    intro i hd hi ha
    refine ev_succ ?_
    simp only [nat_May.l0]
    simp (disch := omega) only [w64]
    refine ev_pos (by omega) (ev_pos (by omega) (ev_pos (by omega) (ev_ite (fun h => ev_now ?_) (fun h => ?_))))
    · have : ¬ (∀ x ∈ xs, x < 4294967296) := fun hall => by have := hall _ (rd_mem xs i (by omega)); omega
      unfold MayB; rw [decide_eq_false this]; rfl
    · rw [cast_succ]
      exact ih (i + 1) (by omega) (by omega) (all_take xs i (by omega) ha (by omega))
theorem may_ev (xs : List Int) (hl : xs.length < 17592186044416) : Ev (fun k => nat_May.f k xs) (MayB xs) := may_l0 xs hl _ 0 rfl (by omega) (by simp)
theorem may_dg {x : Int} (hx : 0 ≤ x) : MayB (dg B x) = true := by
  unfold MayB
  have h1 : ∀ y ∈ dg B x, y < 4294967296 := fun y hy => (dg_dig hB x hx y hy).2
  rw [decide_eq_true h1]
  by_cases hz : x = 0
  · subst hz; rw [dg_zero]; rfl
  · have hne : (dg B x).length ≠ 0 := fun h => hz ((dg_nil_iff hB hx).1 (List.length_eq_zero_iff.1 h))
    have := rd_last_ne (n := x) hB x hx (by omega)
    simp [this]
theorem nat_of_ev {x : Int} (h0 : 0 ≤ x) (h1 : x ≤ 18446744073709551615) : Ev (fun k => nat_Of.f k x) (dg B x) := by
  unfold nat_Of.f
  rw [emod_tmod h0]
  refine ev_bind (trim_ev _ (by simp)) (ev_now ?_)
  have hd : Dig B [x % 4294967296, x / 4294967296] := (Dig.nil.cons (by omega) (by simp only [B]; omega)).cons (by omega) (by simp only [B]; omega)
  rw [strip_dg hB hd]
  congr 1
  simp only [val, B]; omega
theorem len2_lt_iff {x : Int} (hx : 0 ≤ x) (n : Nat) : (dg 2 x).length ≤ n ↔ x < 2 ^ n := by
  constructor
  · intro h
    have h1 := val_lt (b := 2) (by decide) (dg_dig (b := 2) (by decide) x hx)
    rw [val_dg (by decide) x hx] at h1
    exact Int.lt_of_lt_of_le h1 (pow_mono (by decide) h)
  · exact fun h => dg_len_le (by decide) n x hx h
theorem val_take_drop' (b : Int) (xs : List Int) (q : Nat) (h : q ≤ xs.length) : val b xs = val b (xs.take q) + b ^ q * val b (xs.drop q) := by
  conv => lhs; rw [← List.take_append_drop q xs]
  rw [val_append, List.length_take, Nat.min_eq_left h]
end Go.K

end
section
set_option linter.unusedVariables false
set_option linter.unusedSimpArgs false
set_option maxRecDepth 8000
namespace Go.K
open Go Go.RowKit
theorem or_hi {x y : Int} (hx0 : 0 ≤ x) (hx : x < 4294967296) (hy0 : 0 ≤ y) (hy : y < 4294967296) : Go.bits .or .u64 (x * 4294967296) y = x * 4294967296 + y :=
  bits_join .u64 64 (by decide) (fun n a b => wu64 a (by omega)) 32 (x * 4294967296) y (by omega) (by omega) (by omega) hy0 (by omega) (by omega)
theorem limb_div {r a d0 d : Int} (hd0 : 0 ≤ d0) (hd1 : d0 ≤ 18446744073709551615) (hd : d0 % 4294967296 = d) (hr0 : 0 ≤ r) (hr : r < d) (ha0 : 0 ≤ a) (ha : a < 4294967296) :
    limb_Div.f r a d0 = some ((r * 4294967296 + a) / d, (r * 4294967296 + a) % d, 0) := by
  have hdB : d < 4294967296 := by omega
  have ht0 : 0 ≤ r * 4294967296 + a := by omega
  have hq0 : 0 ≤ (r * 4294967296 + a) / d := Int.ediv_nonneg ht0 (by omega)
  have hq1 : (r * 4294967296 + a) / d < 4294967296 := Int.ediv_lt_of_lt_mul (by omega) (by
    have : (r + 1) * 4294967296 ≤ d * 4294967296 := Int.mul_le_mul_of_nonneg_right (by omega) (by decide)
    rw [Int.mul_comm 4294967296 d]
    omega)
  unfold limb_Div.f
  rw [mask32 hd0 hd1, hd, mask32 (x := r) hr0 (by omega), mask32 (x := a) ha0 (by omega), Int.emod_eq_of_lt hr0 (show r < 4294967296 by omega), Int.emod_eq_of_lt ha0 ha, if_neg (by omega), if_neg (by omega), wu64 (x := r * 4294967296) (by omega) (by omega), or_hi hr0 (by omega) ha0 ha, ediv_tdiv ht0, emod_tmod ht0, wu64 hq0 (by omega)]
theorem dsmall_l0 (xs : List Int) (d0 d : Int) (hd00 : 0 ≤ d0) (hd1 : d0 ≤ 18446744073709551615) (hd : d0 % 4294967296 = d) (hdp : 0 < d) (hx : Dig B xs) (hl : xs.length < 1099511627776) : ∀ i : Nat, i ≤ xs.length → ∀ (q : List Int) (r : Int), Dig B q → 0 ≤ r → r < d →
    d * val B q + r = val B (xs.drop i) → q.length + i = xs.length →
    Ev (fun k => divide_Small.l0 k xs d0 (List.replicate i 0 ++ q) r (xs.length : Int) ((xs.length : Int) - i)) (dg B (val B xs / d), val B xs % d, 0) := by
  intro i
  induction i with
  | zero =>
    intro hi q r hq hr0 hr he hlq
    refine ev_succ ?_
    simp only [divide_Small.l0]
    simp only [List.replicate_zero, List.nil_append]
    refine ev_neg (by omega) (ev_bind (make_dig q hq (by omega)) (ev_now ?_))
    rw [List.drop_zero] at he
    have e1 : val B xs / d = val B q := by
      rw [← he, Int.mul_add_ediv_left _ _ (by omega), Int.ediv_eq_zero_of_lt hr0 hr]; omega
    have e2 : val B xs % d = r := by
      rw [← he, Int.mul_add_emod_self_left, Int.emod_eq_of_lt hr0 hr]
    rw [e1, e2]
  | succ i ih =>
    intro hi q r hq hr0 hr he hlq
    have ha := rd_nonneg_lt hx (show i < xs.length by omega)
    simp only [B] at *
    refine ev_succ ?_
    simp only [divide_Small.l0]
    have ei : wrap64 (wrap64 ((xs.length : Int) - 1) - ((xs.length : Int) - ((i + 1 : Nat) : Int))) = (i : Int) := by
      rw [w64 (x := (xs.length : Int) - 1) (by omega) (by omega), w64 (by omega) (by omega)]; omega
    have ec : wrap64 ((xs.length : Int) - ((i + 1 : Nat) : Int) + 1) = (xs.length : Int) - (i : Int) := by
      rw [w64 (by omega) (by omega)]; omega
    rw [ei, ec]
    have ht0 : 0 ≤ r * 4294967296 + rd xs i := by omega
    have hm0 : 0 ≤ (r * 4294967296 + rd xs i) % d := Int.emod_nonneg _ (by omega)
    have hm1 : (r * 4294967296 + rd xs i) % d < d := Int.emod_lt_of_pos _ hdp
    have hqd0 : 0 ≤ (r * 4294967296 + rd xs i) / d := Int.ediv_nonneg ht0 (by omega)
    have hqd : (r * 4294967296 + rd xs i) / d < 4294967296 := Int.ediv_lt_of_lt_mul hdp (by
      have : (r + 1) * 4294967296 ≤ d * 4294967296 := Int.mul_le_mul_of_nonneg_right (by omega) (by decide)
      rw [Int.mul_comm 4294967296 d]
      omega)
    have hdm := Int.mul_ediv_add_emod (r * 4294967296 + rd xs i) d
    refine ev_pos (by omega) (ev_pos (by omega) (ev_pos (by omega) (ev_eq (limb_div hd00 hd1 hd hr0 hr ha.1 ha.2) (ev_pos (by simp; omega) ?_))))
    simp only []
    rw [Int.toNat_natCast, set_zeros]
    refine ih (by omega) _ _ (hq.cons hqd0 hqd) hm0 hm1 ?_ (by simp; omega)
    rw [drop_rd xs i (by omega)]
    simp only [val]
    rw [← he]
    generalize (r * 4294967296 + rd xs i) / d = s at *
    generalize (r * 4294967296 + rd xs i) % d = u at *
    rw [Int.mul_add, Int.mul_left_comm d 4294967296, Int.mul_comm r] at *
    omega
theorem dsmall_ev {x d0 : Int} (hx : 0 ≤ x) (hd0 : 0 ≤ d0) (hd1 : d0 ≤ 18446744073709551615) (hd : d0 % 4294967296 ≠ 0) (hl : (dg B x).length < 1099511627776) :
    Ev (fun k => divide_Small.f k (dg B x) d0) (dg B (x / (d0 % 4294967296)), x % (d0 % 4294967296), 0) := by
  have := dsmall_l0 (dg B x) d0 _ hd0 hd1 rfl (by omega) (dg_dig hB x hx) hl _ (Nat.le_refl _) [] 0 Dig.nil (by omega) (by omega) (by rw [List.drop_length]; simp [val]) (by simp)
  rw [val_dg hB x hx, List.append_nil, Int.sub_self] at this
  unfold divide_Small.f
  rw [emod_tmod hd0]
  simp only [Int.toNat_natCast]
  exact ev_neg hd (ev_pos (by omega) (ev_pos (by omega) this))
end Go.K

end
