/- A part of the proof of the law SolveClears: an abstract machine for the functions' code with its soundness, words, lemmas (assembled by a program). -/
import Derived.Test.YtflnfnemhgjglaaGreatCSolveClears5
set_option linter.unusedVariables false
set_option linter.unusedSimpArgs false
set_option linter.unusedSectionVars false
section
set_option linter.unusedVariables false
set_option linter.unusedSimpArgs false
namespace Go.S
open Go Go.AM Go.RowKit Go.K
theorem mapM_some {α β : Type} {F : α → Option β} {G : α → β} : ∀ (l : List α), (∀ x ∈ l, F x = some (G x)) → l.mapM F = some (l.map G) := by
  intro l
  induction l with
  | nil => intro _; rfl
  | cons x l ih =>
    intro h
    rw [List.mapM_cons, h x (List.mem_cons_self ..), ih fun y hy => h y (List.mem_cons_of_mem _ hy)]
    rfl
end Go.S

end
section
set_option linter.unusedVariables false
set_option linter.unusedSimpArgs false
set_option maxRecDepth 100000
namespace Go.S
open Go Go.AM Go.RowKit Go.K
def RowAt (b : Nat) (g : Heap) (f : Rat → AV) (c : AV) (r : List Rat) (k : Nat) : Prop := ∃ v ys, c = .ref (b + k) v 3 0 r.length ∧ g[k]? = some (some ⟨v, 3, em f r ++ ys⟩)
def RowsIn (b : Nat) (g : Heap) (f : Rat → AV) (cs : List AV) (t : List (List Rat)) (ks : List Nat) : Prop :=
  cs.length = t.length ∧ ks.length = t.length ∧ ∀ i, i < t.length → RowAt b g f (cs.getD i default) (t.getD i default) (ks.getD i default)
theorem RowAt.lt {b : Nat} {g : Heap} {f : Rat → AV} {c : AV} {r : List Rat} {k : Nat} (h : RowAt b g f c r k) : k < g.length := by
  obtain ⟨v, ys, rfl, h⟩ := h
  exact (List.getElem?_eq_some_iff.1 h).1
theorem RowAt.set {b : Nat} {g : Heap} {f : Rat → AV} {c : AV} {r : List Rat} {k : Nat} (h : RowAt b g f c r k) {j : Nat} (hj : j ≠ k) (x : Option Blk) : RowAt b (g.set j x) f c r k := by
  obtain ⟨v, ys, h1, h2⟩ := h
  refine ⟨v, ys, h1, ?_⟩
  rw [List.getElem?_set_ne hj]
  exact h2
theorem RowsIn.lt {b : Nat} {g : Heap} {f : Rat → AV} {cs : List AV} {t : List (List Rat)} {ks : List Nat} (h : RowsIn b g f cs t ks) : ∀ k ∈ ks, k < g.length := fun k hk => by
  obtain ⟨i, hi, rfl⟩ := List.getElem_of_mem hk
  have := (h.2.2 i (by have := h.2.1; omega)).lt
  rw [List.getD_eq_getElem?_getD, List.getElem?_eq_getElem hi] at this
  exact this
theorem RowAt.frz {b : Nat} {g H : Heap} {f : Rat → AV} {c : AV} {r : List Rat} {k : Nat} (h : RowAt b g f c r k) (hf : ∀ x, plain1 (f x) = true) (hH : H[b + k]? = g[k]?) (n : Nat) : frz H (n + 3) c = some (.lst (em f r)) := by
  obtain ⟨v, ys, rfl, h2⟩ := h
  show (blk H (b + k) v).bind (fun b => ((sub b.xs 0 r.length).mapM (Go.AM.frz H (n + 2))).map AV.lst) = _
  have h3 : blk H (b + k) v = some ⟨v, 3, em f r ++ ys⟩ := by
    unfold blk
    rw [hH, h2]
    exact if_pos rfl
  rw [h3]
  have h4 : sub (em f r ++ ys) 0 r.length = em f r := by
    unfold sub
    rw [List.drop_zero, List.take_left' (by simp [em])]
  show ((sub (em f r ++ ys) 0 r.length).mapM (Go.AM.frz H (n + 2))).map AV.lst = _
  rw [h4, mapM_some (G := id) _ fun x hx => by
    obtain ⟨q, _, rfl⟩ := List.mem_map.1 hx
    exact (frz_plain1 (hf q)).1]
  simp
theorem RowsIn.frz {b : Nat} {g H : Heap} {f : Rat → AV} {cs : List AV} {t : List (List Rat)} {ks : List Nat} (h : RowsIn b g f cs t ks) (hf : ∀ x, plain1 (f x) = true) (hH : ∀ k, H[b + k]? = g[k]?) (n : Nat) : cs.mapM (frz H (n + 3)) = some (em (fun r => .lst (em f r)) t) := by
  obtain ⟨h1, h2, h3⟩ := h
  have key : ∀ (cs : List AV) (t : List (List Rat)), cs.length = t.length → (∀ i, i < t.length → Go.AM.frz H (n + 3) (cs.getD i default) = some (.lst (em f (t.getD i default)))) → cs.mapM (Go.AM.frz H (n + 3)) = some (em (fun r => .lst (em f r)) t) := by
    intro cs
    induction cs with
    | nil =>
      intro t ht _
      cases t with
      | nil => rfl
      | cons r t => simp at ht
    | cons c cs ih =>
      intro t ht hi
      cases t with
      | nil => simp at ht
      | cons r t =>
        have a0 := hi 0 (by simp)
        have a1 := ih t (by simpa using ht) fun i hi' => hi (i + 1) (by simp; omega)
        rw [List.mapM_cons]
        rw [show Go.AM.frz H (n + 3) c = some (.lst (em f r)) from a0, a1]
        rfl
  exact key cs t h1 fun i hi => (h3 i hi).frz hf (hH _) n
end Go.S

end
section
set_option linter.unusedVariables false
set_option linter.unusedSimpArgs false
set_option maxRecDepth 100000
namespace Go.S
open Go Go.AM Go.RowKit Go.K
abbrev eRZ (l : List Int) : AV := .lst (em eZ l)
end Go.S

end
section
set_option linter.unusedVariables false
set_option linter.unusedSimpArgs false
namespace Go.S
abbrev Mt := Nat → Nat → Rat
def sm : Nat → (Nat → Rat) → Rat
  | 0, _ => 0
  | n + 1, f => sm n f + f n
theorem sm_congr {n : Nat} {f g : Nat → Rat} (h : ∀ i, i < n → f i = g i) : sm n f = sm n g := by
  induction n with
  | zero => rfl
  | succ n ih => simp only [sm]; rw [ih fun i hi => h i (by omega), h n (by omega)]
theorem sm_zero (n : Nat) : sm n (fun _ => 0) = 0 := by
  induction n with
  | zero => rfl
  | succ n ih => simp only [sm]; rw [ih]; grind
theorem sm_zero' {n : Nat} {f : Nat → Rat} (h : ∀ i, i < n → f i = 0) : sm n f = 0 := (sm_congr h).trans (sm_zero n)
theorem sm_add (n : Nat) (f g : Nat → Rat) : sm n (fun i => f i + g i) = sm n f + sm n g := by
  induction n with
  | zero => simp only [sm]; grind
  | succ n ih => simp only [sm]; rw [ih]; grind
theorem sm_mul (n : Nat) (k : Rat) (f : Nat → Rat) : sm n (fun i => k * f i) = k * sm n f := by
  induction n with
  | zero => simp only [sm]; grind
  | succ n ih => simp only [sm]; rw [ih]; grind
theorem sm_neg (n : Nat) (f : Nat → Rat) : sm n (fun i => -f i) = -sm n f := by
  rw [sm_congr (g := fun i => (-1) * f i) fun i _ => by grind, sm_mul]; grind
theorem sm_one {n j : Nat} {f : Nat → Rat} (hj : j < n) (h : ∀ i, i < n → i ≠ j → f i = 0) : sm n f = f j := by
  induction n with
  | zero => omega
  | succ n ih =>
    simp only [sm]
    by_cases e : j = n
    · subst e
      rw [sm_zero' fun i hi => h i (by omega) (by omega)]; grind
    · rw [ih (by omega) fun i hi hne => h i (by omega) hne, h n (by omega) (by omega)]; grind
def psg (j : Nat) : Rat := if j % 2 = 0 then 1 else -1
theorem psg_succ (j : Nat) : psg (j + 1) = -psg j := by
  unfold psg
  rcases Nat.mod_two_eq_zero_or_one j with h | h
  · rw [if_neg (by omega), if_pos h]
  · rw [if_pos (by omega), if_neg (by omega)]; grind
def sk (j c : Nat) : Nat := if c < j then c else c + 1
def cut (A : Mt) (j : Nat) : Mt := fun i c => A (i + 1) (sk j c)
def det : Nat → Mt → Rat
  | 0, _ => 1
  | n + 1, A => sm (n + 1) fun j => psg j * A 0 j * det n (cut A j)
theorem det_succ (n : Nat) (A : Mt) : det (n + 1) A = sm (n + 1) fun j => psg j * A 0 j * det n (cut A j) := rfl
theorem sk_lt {j c n : Nat} (h : c < n) : sk j c < n + 1 := by unfold sk; split <;> omega
theorem det_congr {n : Nat} : ∀ {A B : Mt}, (∀ i c, i < n → c < n → A i c = B i c) → det n A = det n B := by
  induction n with
  | zero => intro A B h; rfl
  | succ n ih =>
    intro A B h
    rw [det_succ, det_succ]
    refine sm_congr fun j hj => ?_
    rw [h 0 j (by omega) hj, ih (A := cut A j) (B := cut B j) fun i c hi hc => h (i + 1) (sk j c) (by omega) (sk_lt hc)]
def setr (A : Mt) (r : Nat) (f : Nat → Rat) : Mt := fun i c => if i = r then f c else A i c
theorem cut_setr0 (A : Mt) (f : Nat → Rat) (j : Nat) : cut (setr A 0 f) j = cut A j := by
  funext i c; simp [cut, setr]
theorem cut_setr (A : Mt) (r : Nat) (f : Nat → Rat) (j : Nat) : cut (setr A (r + 1) f) j = setr (cut A j) r (fun c => f (sk j c)) := by
  funext i c; simp [cut, setr]
theorem det_lin {n : Nat} : ∀ {A : Mt} {r : Nat} (f g : Nat → Rat) (k : Rat), r < n → det n (setr A r fun c => f c + k * g c) = det n (setr A r f) + k * det n (setr A r g) := by
  induction n with
  | zero => intro A r f g k h; omega
  | succ n ih =>
    intro A r f g k h
    rw [det_succ, det_succ, det_succ, ← sm_mul, ← sm_add]
    refine sm_congr fun j hj => ?_
    cases r with
    | zero =>
      rw [cut_setr0, cut_setr0, cut_setr0]
      simp only [setr, if_true]
      grind
    | succ r =>
      rw [cut_setr, cut_setr, cut_setr, ih (fun c => f (sk j c)) (fun c => g (sk j c)) k (by omega)]
      simp only [setr]
      rw [if_neg (by omega), if_neg (by omega), if_neg (by omega)]
      grind
theorem pairs (N : Nat) (F : Nat → Nat → Rat) : sm (N + 1) (fun j => sm N (F j)) = sm (N + 1) fun j => sm j fun k => F j k + F k (j - 1) := by
  induction N with
  | zero => simp only [sm]
  | succ N ih =>
    have e1 : sm (N + 1) (fun j => sm (N + 1) (F j)) = sm (N + 1) (fun j => sm N (F j)) + sm (N + 1) fun j => F j N := by
      rw [← sm_add]; rfl
    have e2 : sm (N + 1) (fun k => F (N + 1) k + F k (N + 1 - 1)) = sm (N + 1) (F (N + 1)) + sm (N + 1) fun k => F k N := by
      rw [← sm_add]; rfl
    show sm (N + 1) (fun j => sm (N + 1) (F j)) + sm (N + 1) (F (N + 1)) = sm (N + 1) (fun j => sm j fun k => F j k + F k (j - 1)) + sm (N + 1) (fun k => F (N + 1) k + F k (N + 1 - 1))
    rw [e1, e2, ih]
    grind
theorem cut_cut (A : Mt) {j k : Nat} (h : k < j) : cut (cut A k) (j - 1) = cut (cut A j) k := by
  funext i c
  unfold cut
  congr 1
  by_cases h1 : c < k
  · have a1 : sk (j - 1) c = c := by unfold sk; rw [if_pos (by omega)]
    have a2 : sk k c = c := by unfold sk; rw [if_pos h1]
    have a3 : sk j c = c := by unfold sk; rw [if_pos (by omega)]
    rw [a1, a2, a3]
  · have a2 : sk k c = c + 1 := by unfold sk; rw [if_neg h1]
    by_cases h2 : c < j - 1
    · have a1 : sk (j - 1) c = c := by unfold sk; rw [if_pos h2]
      have a3 : sk j (c + 1) = c + 1 := by unfold sk; rw [if_pos (by omega)]
      rw [a1, a2, a3]
    · have a1 : sk (j - 1) c = c + 1 := by unfold sk; rw [if_neg h2]
      have a3 : sk j (c + 1) = c + 2 := by unfold sk; rw [if_neg (by omega)]
      have a4 : sk k (c + 1) = c + 2 := by unfold sk; rw [if_neg (by omega)]
      rw [a1, a2, a3, a4]
def sw (A : Mt) (r : Nat) : Mt := fun i => A (if i = r then r + 1 else if i = r + 1 then r else i)
theorem det_two (m : Nat) (A : Mt) : det (m + 2) A = sm (m + 2) fun j => sm j fun k => psg j * psg k * (A 0 j * A 1 k - A 0 k * A 1 j) * det m (cut (cut A j) k) := by
  rw [det_succ]
  have e : ∀ j, psg j * A 0 j * det (m + 1) (cut A j) = sm (m + 1) fun k => psg j * A 0 j * (psg k * A 1 (sk j k) * det m (cut (cut A j) k)) := fun j => by
    rw [det_succ, sm_mul]; rfl
  rw [sm_congr fun j _ => e j, pairs (m + 1) fun j k => psg j * A 0 j * (psg k * A 1 (sk j k) * det m (cut (cut A j) k))]
  refine sm_congr fun j hj => sm_congr fun k hk => ?_
  rw [cut_cut A hk]
  have a1 : sk j k = k := by unfold sk; rw [if_pos hk]
  have a2 : sk k (j - 1) = j := by unfold sk; rw [if_neg (by omega)]; omega
  obtain ⟨i, rfl⟩ : ∃ i, j = i + 1 := ⟨j - 1, by omega⟩
  rw [a1, a2, psg_succ, Nat.add_sub_cancel]
  grind
theorem det_sw0 (m : Nat) (A : Mt) : det (m + 2) (sw A 0) = -det (m + 2) A := by
  rw [det_two, det_two, ← sm_neg]
  refine sm_congr fun j hj => ?_
  rw [← sm_neg]
  refine sm_congr fun k hk => ?_
  have e : cut (cut (sw A 0) j) k = cut (cut A j) k := by
    funext i c; simp [cut, sw]
  rw [e]
  show psg j * psg k * (A 1 j * A 0 k - A 1 k * A 0 j) * _ = _
  grind
theorem det_sw {n : Nat} : ∀ {A : Mt} {r : Nat}, r + 1 < n → det n (sw A r) = -det n A := by
  induction n with
  | zero => intro A r h; omega
  | succ n ih =>
    intro A r h
    cases r with
    | zero =>
      obtain ⟨m, rfl⟩ : ∃ m, n = m + 1 := ⟨n - 1, by omega⟩
      exact det_sw0 m A
    | succ r =>
      rw [det_succ, det_succ, ← sm_neg]
      refine sm_congr fun j hj => ?_
      have e : cut (sw A (r + 1)) j = sw (cut A j) r := by
        funext i c
        unfold cut sw
        congr 1
        simp only [Nat.add_right_cancel_iff]
        split
        · rfl
        · split <;> rfl
      rw [e, ih (by omega)]
      have e2 : sw A (r + 1) 0 j = A 0 j := by simp [sw]
      rw [e2]
      grind
theorem det_eq0 {n : Nat} : ∀ (s : Nat) {A : Mt}, s + 1 < n → (∀ c, c < n → A 0 c = A (s + 1) c) → det n A = 0 := by
  intro s
  induction s with
  | zero =>
    intro A h e
    have h1 := det_sw (A := A) (r := 0) h
    have h2 : det n (sw A 0) = det n A := det_congr fun i c hi hc => by
      unfold sw
      by_cases h0 : i = 0
      · subst h0; exact (e c hc).symm
      · rw [if_neg h0]
        by_cases h1 : i = 0 + 1
        · rw [if_pos h1]; subst h1; exact e c hc
        · rw [if_neg h1]
    rw [h2] at h1
    grind
  | succ s ih =>
    intro A h e
    have h1 := det_sw (A := A) (r := s + 1) h
    have h2 : det n (sw A (s + 1)) = 0 := ih (by omega) fun c hc => by
      have a1 : sw A (s + 1) 0 c = A 0 c := by simp [sw]
      have a2 : sw A (s + 1) (s + 1) c = A (s + 1 + 1) c := by simp [sw]
      rw [a1, a2]; exact e c hc
    rw [h2] at h1
    grind
theorem det_eq {n : Nat} : ∀ {A : Mt} {r s : Nat}, r < s → s < n → (∀ c, c < n → A r c = A s c) → det n A = 0 := by
  induction n with
  | zero => intro A r s _ h; omega
  | succ n ih =>
    intro A r s h1 h2 e
    cases r with
    | zero =>
      obtain ⟨t, rfl⟩ : ∃ t, s = t + 1 := ⟨s - 1, by omega⟩
      exact det_eq0 t h2 e
    | succ r =>
      obtain ⟨t, rfl⟩ : ∃ t, s = t + 1 := ⟨s - 1, by omega⟩
      rw [det_succ]
      refine sm_zero' fun j hj => ?_
      rw [ih (A := cut A j) (r := r) (s := t) (by omega) (by omega) fun c hc => e (sk j c) (sk_lt hc)]
      grind
theorem det_eq' {n : Nat} {A : Mt} {r s : Nat} (h : r ≠ s) (hr : r < n) (hs : s < n) (e : ∀ c, c < n → A r c = A s c) : det n A = 0 := by
  rcases Nat.lt_or_ge r s with h1 | h1
  · exact det_eq h1 hs e
  · exact det_eq (show s < r by omega) hr fun c hc => (e c hc).symm
theorem setr_self (A : Mt) (r : Nat) : setr A r (A r) = A := by
  funext i c; unfold setr; split
  · next h => rw [h]
  · rfl
theorem det_more {n : Nat} {A : Mt} {r s : Nat} (k : Rat) (h : r ≠ s) (hr : r < n) (hs : s < n) : det n (setr A r fun c => A r c + k * A s c) = det n A := by
  rw [det_lin (A r) (A s) k hr, setr_self]
  have e : det n (setr A r (A s)) = 0 := det_eq' h hr hs fun c _ => by
    simp only [setr, if_true]
    rw [if_neg (Ne.symm h)]
  rw [e]; grind
theorem det_scale {n : Nat} {A : Mt} {r : Nat} (k : Rat) (hr : r < n) : det n (setr A r fun c => k * A r c) = k * det n A := by
  have e1 := det_lin (A := A) (fun _ => 0) (A r) k hr
  have e2 := det_lin (A := A) (fun _ => 0) (fun _ => 0) 1 hr
  rw [setr_self] at e1
  rw [show (fun c => (0 : Rat) + k * A r c) = fun c => k * A r c from by funext c; grind] at e1
  rw [show (fun c : Nat => (0 : Rat) + 1 * 0) = fun _ => 0 from by funext c; grind] at e2
  rw [e1]; grind
theorem det_row0 {n : Nat} {A : Mt} {r : Nat} (hr : r < n) (h : ∀ c, c < n → A r c = 0) : det n A = 0 := by
  have e := det_scale (A := A) 0 hr
  rw [← det_congr (A := A) (B := setr A r fun c => 0 * A r c) fun i c hi hc => ?_] at e
  · rw [e]; grind
  · unfold setr
    split
    · next h1 => rw [h1, h c hc]; grind
    · rfl
def swp (A : Mt) (r s : Nat) : Mt := fun i => A (if i = r then s else if i = s then r else i)
theorem det_swp {n : Nat} {A : Mt} {r s : Nat} (h : r ≠ s) (hr : r < n) (hs : s < n) : det n (swp A r s) = -det n A := by
  have e1 := det_more (A := A) 1 h hr hs
  generalize hB : setr A r (fun c => A r c + 1 * A s c) = B at e1
  have e2 := det_more (A := B) (-1) (Ne.symm h) hs hr
  generalize hC : setr B s (fun c => B s c + -1 * B r c) = C at e2
  have e3 := det_more (A := C) 1 h hr hs
  generalize hD : setr C r (fun c => C r c + 1 * C s c) = D at e3
  have e4 := det_scale (A := D) (-1) hs
  have e5 : setr D s (fun c => -1 * D s c) = swp A r s := by
    subst hD; subst hC; subst hB
    funext i c
    unfold setr swp
    by_cases h1 : i = s
    · subst h1; simp [h, Ne.symm h]; grind
    · by_cases h2 : i = r
      · subst h2; simp [h, Ne.symm h]; grind
      · simp [h1, h2]
  rw [← e5, e4, e3, e2, e1]; grind
theorem det_id (n : Nat) : ∀ {A : Mt}, (∀ i c, i < n → c < n → A i c = if i = c then 1 else 0) → det n A = 1 := by
  induction n with
  | zero => intro A h; rfl
  | succ n ih =>
    intro A h
    rw [det_succ, sm_one (j := 0) (by omega) fun j hj hne => by rw [h 0 j (by omega) hj, if_neg (Ne.symm hne)]; grind]
    rw [h 0 0 (by omega) (by omega), if_pos rfl, ih fun i c hi hc => by
      show A (i + 1) (sk 0 c) = _
      rw [show sk 0 c = c + 1 from rfl, h (i + 1) (c + 1) (by omega) (by omega)]
      simp]
    unfold psg; simp
theorem det_int (n : Nat) : ∀ {A : Mt}, (∀ i c, i < n → c < n → ∃ z : Int, A i c = z) → ∃ z : Int, det n A = z := by
  induction n with
  | zero => intro A h; exact ⟨1, rfl⟩
  | succ n ih =>
    intro A h
    have hs : ∀ m f, (∀ j, j < m → ∃ z : Int, f j = (z : Rat)) → ∃ z : Int, sm m f = z := by
      intro m
      induction m with
      | zero => intro f _; exact ⟨0, rfl⟩
      | succ m ihm =>
        intro f hf
        obtain ⟨a, ha⟩ := ihm f fun j hj => hf j (by omega)
        obtain ⟨b, hb⟩ := hf m (by omega)
        exact ⟨a + b, by simp only [sm]; rw [ha, hb, Rat.intCast_add]⟩
    refine hs _ _ fun j hj => ?_
    obtain ⟨a, ha⟩ := h 0 j (by omega) hj
    obtain ⟨b, hb⟩ := ih (A := cut A j) fun i c hi hc => h (i + 1) (sk j c) (by omega) (sk_lt hc)
    rw [ha, hb]
    unfold psg
    split
    · exact ⟨a * b, by rw [Rat.intCast_mul]; grind⟩
    · exact ⟨-(a * b), by rw [Rat.intCast_neg, Rat.intCast_mul]; grind⟩
structure LinR (φ : (Nat → Rat) → Nat → Rat) : Prop where
  add : ∀ f g k c, φ (fun x => f x + k * g x) c = φ f c + k * φ g c
theorem LinR.zero {φ : (Nat → Rat) → Nat → Rat} (L : LinR φ) (c : Nat) : φ (fun _ => 0) c = 0 := by
  have h := L.add (fun _ => 0) (fun _ => 0) 1 c
  rw [show (fun x : Nat => (0 : Rat) + 1 * 0) = fun _ => 0 from by funext x; grind] at h
  grind
theorem LinR.mul {φ : (Nat → Rat) → Nat → Rat} (L : LinR φ) (f : Nat → Rat) (k : Rat) (c : Nat) : φ (fun x => k * f x) c = k * φ f c := by
  have h := L.add (fun _ => 0) f k c
  rw [show (fun x : Nat => (0 : Rat) + k * f x) = fun x => k * f x from by funext x; grind, L.zero] at h
  grind
end Go.S

end
section
set_option linter.unusedVariables false
set_option linter.unusedSimpArgs false
namespace Go.S
theorem setr_row (B : Mt) (r : Nat) (g : Nat → Rat) (i : Nat) : setr B r g i = if i = r then g else B i := by
  funext c; unfold setr; split <;> rfl
inductive Rop (n : Nat) : Mt → Mt → Rat → Prop
  | refl (A : Mt) : Rop n A A 1
  | scale {A B : Mt} {f : Rat} (r : Nat) (k : Rat) (hr : r < n) (hk : k ≠ 0) : Rop n A B f → Rop n A (setr B r fun x => k * B r x) (f * k⁻¹)
  | more {A B : Mt} {f : Rat} (r s : Nat) (k : Rat) (hr : r < n) (hs : s < n) (h : r ≠ s) : Rop n A B f → Rop n A (setr B r fun x => B r x + k * B s x) f
  | swap {A B : Mt} {f : Rat} (r s : Nat) (hr : r < n) (hs : s < n) (h : r ≠ s) : Rop n A B f → Rop n A (swp B r s) (-f)
theorem Rop.det {n : Nat} {A B : Mt} {f : Rat} (H : Rop n A B f) {φ : (Nat → Rat) → Nat → Rat} (L : LinR φ) : det n (fun i => φ (A i)) = f * det n (fun i => φ (B i)) := by
  induction H with
  | refl => grind
  | scale r k hr hk _ ih =>
    rename_i B f _
    have e : (fun i => φ (setr B r (fun x => k * B r x) i)) = setr (fun i => φ (B i)) r (fun c => k * φ (B r) c) := by
      funext i c
      rw [setr_row]
      unfold setr
      by_cases h : i = r
      · rw [if_pos h, if_pos h, L.mul]
      · rw [if_neg h, if_neg h]
    rw [e, det_scale (A := fun i => φ (B i)) k hr, ih]
    have : k⁻¹ * k = 1 := by rw [Rat.inv_mul_cancel _ hk]
    grind
  | more r s k hr hs h _ ih =>
    rename_i B f _
    have e : (fun i => φ (setr B r (fun x => B r x + k * B s x) i)) = setr (fun i => φ (B i)) r (fun c => φ (B r) c + k * φ (B s) c) := by
      funext i c
      rw [setr_row]
      unfold setr
      by_cases h : i = r
      · rw [if_pos h, if_pos h, L.add]
      · rw [if_neg h, if_neg h]
    rw [e, det_more (A := fun i => φ (B i)) k h hr hs, ih]
  | swap r s hr hs h _ ih =>
    rename_i B f _
    have e : (fun i => φ (swp B r s i)) = swp (fun i => φ (B i)) r s := rfl
    rw [e, det_swp (A := fun i => φ (B i)) h hr hs, ih]
    grind
theorem Rop.det1 {n : Nat} {A B : Mt} {f : Rat} (H : Rop n A B f) : Go.S.det n A = f * Go.S.det n B := H.det (φ := fun f => f) ⟨fun _ _ _ _ => rfl⟩
structure Sub (P : (Nat → Rat) → Prop) : Prop where
  more : ∀ f g k, P f → P g → P fun x => f x + k * g x
  scale : ∀ f k, P f → P fun x => k * f x
theorem Rop.sub {n : Nat} {A B : Mt} {f : Rat} (H : Rop n A B f) {P : (Nat → Rat) → Prop} (S : Sub P) : (∀ i, i < n → P (A i)) ↔ (∀ i, i < n → P (B i)) := by
  induction H with
  | refl => exact Iff.rfl
  | scale r k hr hk _ ih =>
    rename_i B f _
    rw [ih]
    constructor
    · intro h i hi
      rw [setr_row]
      split
      · exact S.scale _ _ (h r hr)
      · exact h i hi
    · intro h i hi
      have h1 := h i hi
      rw [setr_row] at h1
      by_cases e : i = r
      · rw [if_pos e] at h1
        have h2 := S.scale _ k⁻¹ h1
        have : k⁻¹ * k = 1 := by rw [Rat.inv_mul_cancel _ hk]
        rw [show (fun x => k⁻¹ * (k * B r x)) = B i from by funext x; rw [e]; grind] at h2
        exact h2
      · rw [if_neg e] at h1; exact h1
  | more r s k hr hs h _ ih =>
    rename_i B f _
    rw [ih]
    constructor
    · intro h i hi
      rw [setr_row]
      split
      · exact S.more _ _ _ (h r hr) (h s hs)
      · exact h i hi
    · intro h' i hi
      have h1 := h' i hi
      rw [setr_row] at h1
      by_cases e : i = r
      · rw [if_pos e] at h1
        have h3 := h' s hs
        rw [setr_row, if_neg (Ne.symm h)] at h3
        have h2 := S.more _ _ (-k) h1 h3
        rw [show (fun x => (B r x + k * B s x) + -k * B s x) = B i from by funext x; rw [e]; grind] at h2
        exact h2
      · rw [if_neg e] at h1; exact h1
  | swap r s hr hs h _ ih =>
    rename_i B f _
    rw [ih]
    constructor
    · intro h i hi
      unfold swp
      split
      · exact h s hs
      · split
        · exact h r hr
        · exact h i hi
    · intro h' i hi
      by_cases e : i = r
      · subst e; have := h' s hs; unfold swp at this; rwa [if_neg (Ne.symm h), if_pos rfl] at this
      · by_cases e2 : i = s
        · subst e2; have := h' r hr; unfold swp at this; rwa [if_pos rfl] at this
        · have := h' i hi; unfold swp at this; rwa [if_neg e, if_neg e2] at this
def fndF (A : Mt) (j : Nat) : Nat → Nat → Nat
  | 0, a => a
  | d + 1, a => if A a j = 0 then fndF A j d (a + 1) else a
def fnd (n : Nat) (A : Mt) (j a : Nat) : Nat := fndF A j (n - a) a
theorem fndF_spec (A : Mt) (j : Nat) : ∀ d a, a ≤ fndF A j d a ∧ fndF A j d a ≤ a + d ∧ (∀ i, a ≤ i → i < fndF A j d a → A i j = 0) ∧ (fndF A j d a < a + d → A (fndF A j d a) j ≠ 0) := by
  intro d
  induction d with
  | zero => intro a; exact ⟨Nat.le_refl _, Nat.le_refl _, fun i h1 h2 => by simp only [fndF] at h2; omega, fun h => by simp only [fndF] at h; omega⟩
  | succ d ih =>
    intro a
    simp only [fndF]
    by_cases h : A a j = 0
    · rw [if_pos h]
      obtain ⟨h1, h2, h3, h4⟩ := ih (a + 1)
      refine ⟨by omega, by omega, fun i hi hi2 => ?_, fun hlt => h4 (by omega)⟩
      by_cases e : i = a
      · rw [e]; exact h
      · exact h3 i (by omega) hi2
    · rw [if_neg h]
      exact ⟨Nat.le_refl _, by omega, fun i h1 h2 => by omega, fun _ => h⟩
theorem fnd_spec {n : Nat} {A : Mt} {j a : Nat} (h : a ≤ n) : a ≤ fnd n A j a ∧ fnd n A j a ≤ n ∧ (∀ i, a ≤ i → i < fnd n A j a → A i j = 0) ∧ (fnd n A j a < n → A (fnd n A j a) j ≠ 0) := by
  obtain ⟨h1, h2, h3, h4⟩ := fndF_spec A j (n - a) a
  exact ⟨h1, by unfold fnd; omega, h3, fun hlt => h4 (by unfold fnd at hlt; omega)⟩
def elimTo (A : Mt) (a j i : Nat) : Mt := fun r x => if r < i ∧ r ≠ a then A r x - A r j * A a x else A r x
theorem elimTo_zero (A : Mt) (a j : Nat) : elimTo A a j 0 = A := by funext r x; simp [elimTo]
theorem elimTo_self (A : Mt) (a j : Nat) : elimTo A a j (a + 1) = elimTo A a j a := by
  funext r x
  unfold elimTo
  by_cases h : r < a
  · rw [if_pos (show r < a + 1 ∧ r ≠ a by omega), if_pos (show r < a ∧ r ≠ a by omega)]
  · rw [if_neg (show ¬ (r < a ∧ r ≠ a) by omega), if_neg (by omega)]
theorem elimTo_succ (A : Mt) {a j i : Nat} (h : i ≠ a) : elimTo A a j (i + 1) = setr (elimTo A a j i) i fun x => elimTo A a j i i x + -(A i j) * elimTo A a j i a x := by
  funext r x
  unfold setr
  by_cases e : r = i
  · subst e
    rw [if_pos rfl]
    unfold elimTo
    rw [if_pos (show r < r + 1 ∧ r ≠ a by omega)]
    show _ = (if r < r ∧ r ≠ a then _ else _) + -A r j * (if a < r ∧ a ≠ a then _ else _)
    rw [if_neg (by omega), if_neg (by omega)]
    grind
  · rw [if_neg e]
    unfold elimTo
    by_cases h1 : r < i ∧ r ≠ a
    · rw [if_pos h1, if_pos ⟨by omega, h1.2⟩]
    · rw [if_neg h1, if_neg (by omega)]
theorem elimTo_at (A : Mt) (a j i : Nat) : elimTo A a j i a = A a := by funext x; unfold elimTo; rw [if_neg (by omega)]
theorem Rop.elim {n : Nat} {A B : Mt} {f : Rat} (H : Rop n A B f) {a j : Nat} (ha : a < n) : ∀ i, i ≤ n → Rop n A (elimTo B a j i) f := by
  intro i
  induction i with
  | zero => intro _; rw [elimTo_zero]; exact H
  | succ i ih =>
    intro hi
    by_cases e : i = a
    · subst e; rw [elimTo_self]; exact ih (by omega)
    · rw [elimTo_succ _ e]
      exact .more i a _ (by omega) ha e (ih (by omega))
theorem swp_self (A : Mt) (a : Nat) : swp A a a = A := by
  funext i; unfold swp; congr 1; split
  · next h => exact h.symm
  · rfl
def pivR (A : Mt) (a k j : Nat) : Mt := setr (swp A a k) a fun x => (A k j)⁻¹ * A k x
def gstep (n j : Nat) (s : Mt × List Nat × Rat) : Mt × List Nat × Rat :=
  if fnd n s.1 j s.2.1.length = n then s else
    (elimTo (pivR s.1 s.2.1.length (fnd n s.1 j s.2.1.length) j) s.2.1.length j n, s.2.1 ++ [j], (if s.2.1.length = fnd n s.1 j s.2.1.length then s.2.2 else -s.2.2) * s.1 (fnd n s.1 j s.2.1.length) j)
def grun (n : Nat) (A : Mt) : Nat → Mt × List Nat × Rat
  | 0 => (A, [], 1)
  | j + 1 => gstep n j (grun n A j)
theorem Rop.gstep {n j : Nat} {A : Mt} {s : Mt × List Nat × Rat} (H : Rop n A s.1 s.2.2) (h : s.2.1.length ≤ n) : Rop n A (Go.S.gstep n j s).1 (Go.S.gstep n j s).2.2 := by
  unfold Go.S.gstep
  obtain ⟨g1, g2, g3, g4⟩ := fnd_spec (n := n) (A := s.1) (j := j) (a := s.2.1.length) h
  generalize fnd n s.1 j s.2.1.length = k at *
  split
  · exact H
  · next hk =>
    have hk2 : k < n := by omega
    have hp := g4 hk2
    generalize s.2.1.length = a at *
    refine Rop.elim ?_ (by omega) n (Nat.le_refl _)
    have h1 : Rop n A (swp s.1 a k) (if a = k then s.2.2 else -s.2.2) := by
      by_cases e : a = k
      · subst e; rw [swp_self, if_pos rfl]; exact H
      · rw [if_neg e]; exact .swap a k (by omega) hk2 e H
    have h2 := Rop.scale a (s.1 k j)⁻¹ (by omega) (by
      intro e
      have := Rat.mul_inv_cancel _ hp
      rw [e] at this
      grind) h1
    rw [Rat.inv_inv] at h2
    have e : swp s.1 a k a = s.1 k := by unfold swp; rw [if_pos rfl]
    rw [e] at h2
    exact h2
structure RR (n j : Nat) (A : Mt) (piv : List Nat) : Prop where
  le : piv.length ≤ n
  lt : ∀ i, i < piv.length → piv.getD i default < j
  one : ∀ i, i < piv.length → A i (piv.getD i default) = 1
  col : ∀ i, i < piv.length → ∀ r, r < n → r ≠ i → A r (piv.getD i default) = 0
  ahead : ∀ i, i < piv.length → ∀ x, x < piv.getD i default → A i x = 0
  rest : ∀ r, piv.length ≤ r → r < n → ∀ x, x < j → A r x = 0
  mono : ∀ i i', i < i' → i' < piv.length → piv.getD i default < piv.getD i' default
theorem RR.nil (n : Nat) (A : Mt) : RR n 0 A [] := ⟨Nat.zero_le _, fun i h => by simp at h, fun i h => by simp at h, fun i h => by simp at h, fun i h => by simp at h, fun r _ _ x h => by omega, fun i i' _ h => by simp at h⟩
theorem snoc_lt {l : List Nat} {x i : Nat} (h : i < l.length) : (l ++ [x]).getD i default = l.getD i default := by simp [List.getD, List.getElem?_append_left h]
theorem snoc_at {l : List Nat} {x : Nat} : (l ++ [x]).getD l.length default = x := by simp [List.getD]
theorem RR.step {n j : Nat} {A : Mt} {piv : List Nat} {d : Rat} (H : RR n j A piv) : RR n (j + 1) (gstep n j (A, piv, d)).1 (gstep n j (A, piv, d)).2.1 := by
  unfold gstep
  obtain ⟨g1, g2, g3, g4⟩ := fnd_spec (n := n) (A := A) (j := j) (a := piv.length) H.le
  simp only
  generalize fnd n A j piv.length = k at *
  split
  · next hk =>
    subst hk
    refine ⟨H.le, fun i hi => Nat.lt_succ_of_lt (H.lt i hi), H.one, H.col, H.ahead, fun r h1 h2 x hx => ?_, H.mono⟩
    by_cases e : x = j
    · rw [e]; exact g3 r h1 h2
    · exact H.rest r h1 h2 x (by omega)
  · next hk =>
    have hk2 : k < n := by omega
    have hp := g4 hk2
    simp only
    have hpi : (A k j)⁻¹ * A k j = 1 := Rat.inv_mul_cancel _ hp
    have z0 : ∀ x, x < j → A k x = 0 := fun x hx => H.rest k g1 hk2 x hx
    have va : ∀ x, elimTo (pivR A piv.length k j) piv.length j n piv.length x = (A k j)⁻¹ * A k x := fun x => by
      rw [elimTo_at]; simp [pivR, setr]
    have vr : ∀ r, r < n → r ≠ piv.length → ∀ x, elimTo (pivR A piv.length k j) piv.length j n r x = swp A piv.length k r x - swp A piv.length k r j * ((A k j)⁻¹ * A k x) := fun r hr hne x => by
      unfold elimTo
      rw [if_pos ⟨hr, hne⟩]
      simp [pivR, setr, hne]
    generalize elimTo (pivR A piv.length k j) piv.length j n = D at *
    have sr : ∀ r, r < n → r ≠ piv.length → ∃ r', r' < n ∧ swp A piv.length k r = A r' ∧ (r < piv.length → r' = r) ∧ (piv.length ≤ r → piv.length ≤ r') ∧ ∀ i, i < piv.length → r ≠ i → r' ≠ i := fun r hr hne => by
      unfold swp
      rw [if_neg hne]
      by_cases e : r = k
      · rw [if_pos e]; exact ⟨piv.length, by omega, rfl, fun h => by omega, fun _ => Nat.le_refl _, fun i hi _ => by omega⟩
      · rw [if_neg e]; exact ⟨r, hr, rfl, fun _ => rfl, fun h => h, fun i _ h => h⟩
    have low : ∀ r, r < n → r ≠ piv.length → ∀ x, x < j → D r x = swp A piv.length k r x := fun r hr hne x hx => by
      rw [vr r hr hne x, z0 x hx]; grind
    have lowa : ∀ x, x < j → D piv.length x = 0 := fun x hx => by rw [va, z0 x hx]; grind
    refine ⟨by simp; omega, ?_, ?_, ?_, ?_, ?_, ?_⟩
    · intro i hi
      by_cases e : i < piv.length
      · rw [snoc_lt e]; have := H.lt i e; omega
      · have : i = piv.length := by simp at hi; omega
        subst this; rw [snoc_at]; omega
    · intro i hi
      by_cases e : i < piv.length
      · rw [snoc_lt e, low i (by have := H.le; omega) (by omega) _ (H.lt i e)]
        obtain ⟨r', _, h2, h3, _, _⟩ := sr i (by have := H.le; omega) (by omega)
        rw [h2, h3 e]; exact H.one i e
      · have : i = piv.length := by simp at hi; omega
        subst this; rw [snoc_at, va, hpi]
    · intro i hi r hr hne
      by_cases e : i < piv.length
      · rw [snoc_lt e]
        by_cases e2 : r = piv.length
        · rw [e2]; exact lowa _ (H.lt i e)
        · rw [low r hr e2 _ (H.lt i e)]
          obtain ⟨r', h1, h2, _, _, h5⟩ := sr r hr e2
          rw [h2]; exact H.col i e r' h1 (h5 i e hne)
      · have : i = piv.length := by simp at hi; omega
        subst this; rw [snoc_at, vr r hr hne, hpi]; grind
    · intro i hi x hx
      by_cases e : i < piv.length
      · rw [snoc_lt e] at hx
        have := H.lt i e
        rw [low i (by have := H.le; omega) (by omega) x (by omega)]
        obtain ⟨r', _, h2, h3, _, _⟩ := sr i (by have := H.le; omega) (by omega)
        rw [h2, h3 e]; exact H.ahead i e x hx
      · have : i = piv.length := by simp at hi; omega
        subst this; rw [snoc_at] at hx; exact lowa x hx
    · intro r h1 h2 x hx
      simp at h1
      by_cases e : x = j
      · rw [e, vr r h2 (by omega), hpi]; grind
      · rw [low r h2 (by omega) x (by omega)]
        obtain ⟨r', q1, q2, _, q4, _⟩ := sr r h2 (by omega)
        rw [q2]; exact H.rest r' (q4 (by omega)) q1 x (by omega)
    · intro i i' h1 h2
      simp at h2
      by_cases e : i' < piv.length
      · rw [snoc_lt e, snoc_lt (by omega)]; exact H.mono i i' h1 e
      · have : i' = piv.length := by omega
        subst this; rw [snoc_at, snoc_lt h1]; exact H.lt i h1
theorem grun_RR (n : Nat) (A : Mt) : ∀ j, RR n j (grun n A j).1 (grun n A j).2.1 := by
  intro j
  induction j with
  | zero => exact RR.nil n A
  | succ j ih => exact RR.step (d := (grun n A j).2.2) ih
theorem grun_Rop (n : Nat) (A : Mt) : ∀ j, Rop n A (grun n A j).1 (grun n A j).2.2 := by
  intro j
  induction j with
  | zero => exact .refl A
  | succ j ih => exact Rop.gstep ih (grun_RR n A j).le
end Go.S

end
section
set_option linter.unusedVariables false
set_option linter.unusedSimpArgs false
namespace Go.S
def rowf (c : Nat) (f : Nat → Rat) : List Rat := (List.range c).map f
def tab (n c : Nat) (A : Mt) : List (List Rat) := (List.range n).map fun i => rowf c (A i)
def mm (m : Nat) (A B : Mt) : Mt := fun i j => sm m fun k => A i k * B k j
def idm : Mt := fun i j => if i = j then 1 else 0
theorem mm_one_r {m : Nat} {A : Mt} {j : Nat} (i : Nat) (h : j < m) : mm m A idm i j = A i j := by
  unfold mm idm
  rw [sm_one h fun k hk hne => by rw [if_neg hne]; grind, if_pos rfl]; grind
end Go.S

end
section
set_option linter.unusedVariables false
set_option linter.unusedSimpArgs false
namespace Go.S
theorem piv_ge {n j : Nat} {S : Mt} {piv : List Nat} (H : RR n j S piv) : ∀ i, i < piv.length → i ≤ piv.getD i default := by
  intro i
  induction i with
  | zero => intro _; exact Nat.zero_le _
  | succ i ih =>
    intro h
    have := ih (by omega)
    have := H.mono i (i + 1) (by omega) h
    omega
theorem piv_le {n : Nat} {S : Mt} {piv : List Nat} (H : RR n n S piv) (hl : piv.length = n) : ∀ d i, i + d + 1 = n → piv.getD i default ≤ i := by
  intro d
  induction d with
  | zero =>
    intro i h
    have := H.lt i (by omega)
    omega
  | succ d ih =>
    intro i h
    have h1 := ih (i + 1) (by omega)
    have h2 := H.mono i (i + 1) (by omega) (by omega)
    omega
theorem full_id {n : Nat} {S : Mt} {piv : List Nat} (H : RR n n S piv) (hl : piv.length = n) : ∀ i c, i < n → c < n → S i c = if i = c then 1 else 0 := by
  have hp : ∀ i, i < n → piv.getD i default = i := fun i hi => by
    have h1 := piv_ge H i (by omega)
    have h2 := piv_le H hl (n - 1 - i) i (by omega)
    omega
  intro i c hi hc
  have e := hp c hc
  by_cases h : i = c
  · subst h
    have := H.one i (by omega)
    rw [e] at this
    rw [if_pos rfl, this]
  · have := H.col c (by omega) i hi h
    rw [e] at this
    rw [if_neg h, this]
def gdet (n : Nat) (A : Mt) : Rat := if (grun n A n).2.1.length < n then 0 else (grun n A n).2.2
theorem det_mm {n : Nat} {A B : Mt} : det n (mm n A B) = gdet n A * det n B := by
  have H := grun_RR n A n
  have R := grun_Rop n A n
  unfold gdet
  generalize (grun n A n).2.2 = d at *
  generalize (grun n A n).1 = S at *
  generalize (grun n A n).2.1 = piv at *
  have L : LinR (fun (f : Nat → Rat) (j : Nat) => sm n fun k => f k * B k j) := ⟨fun f g k c => by
    show sm n (fun x => (f x + k * g x) * B x c) = sm n (fun x => f x * B x c) + k * sm n (fun x => g x * B x c)
    rw [← sm_mul, ← sm_add]
    exact sm_congr fun x _ => by grind⟩
  have h1 : det n (mm n A B) = d * det n (mm n S B) := R.det L
  rw [h1]
  by_cases hl : piv.length < n
  · rw [if_pos hl]
    have : det n (mm n S B) = 0 := det_row0 (r := piv.length) hl fun c hc => sm_zero' fun k hk => by
      rw [H.rest piv.length (Nat.le_refl _) hl k hk]; grind
    rw [this]; grind
  · rw [if_neg hl]
    have hl2 : piv.length = n := by have := H.le; omega
    have hS := full_id H hl2
    have : det n (mm n S B) = det n B := det_congr fun i c hi hc => by
      unfold mm
      rw [sm_one hi fun k hk hne => by rw [hS i k hi hk, if_neg (Ne.symm hne)]; grind, hS i i hi hi, if_pos rfl]; grind
    rw [this]
theorem det_gdet (n : Nat) (A : Mt) : det n A = gdet n A := by
  have h := det_mm (n := n) (A := A) (B := idm)
  have h1 : det n (mm n A idm) = det n A := det_congr fun i c hi hc => mm_one_r i hc
  have h2 : det n idm = 1 := det_id n fun i c hi hc => rfl
  rw [h1, h2] at h
  rw [h]; grind
end Go.S

end
section
set_option linter.unusedVariables false
set_option linter.unusedSimpArgs false
namespace Go.S
theorem det_last {n : Nat} : ∀ {A : Mt}, (∀ c, c < n → A n c = 0) → det (n + 1) A = A n n * det n A := by
  induction n with
  | zero =>
    intro A _
    show 0 + psg 0 * A 0 0 * 1 = A 0 0 * 1
    rw [show psg 0 = 1 from rfl]; grind
  | succ n ih =>
    intro A h
    rw [det_succ (n + 1) A, det_succ n A, ← sm_mul]
    show sm (n + 1) _ + psg (n + 1) * A 0 (n + 1) * det (n + 1) (cut A (n + 1)) = _
    have z : det (n + 1) (cut A (n + 1)) = 0 := det_row0 (r := n) (by omega) fun c hc => by
      show A (n + 1) (sk (n + 1) c) = 0
      rw [show sk (n + 1) c = c from by unfold sk; rw [if_pos (by omega)]]
      exact h c (by omega)
    have e : sm (n + 1) (fun j => psg j * A 0 j * det (n + 1) (cut A j)) = sm (n + 1) fun j => A (n + 1) (n + 1) * (psg j * A 0 j * det n (cut A j)) := sm_congr fun j hj => by
      have hi := ih (A := cut A j) fun c hc => by
        show A (n + 1) (sk j c) = 0
        exact h _ (by unfold sk; split <;> omega)
      have : cut A j n n = A (n + 1) (n + 1) := by
        show A (n + 1) (sk j n) = _
        rw [show sk j n = n + 1 from by unfold sk; rw [if_neg (by omega)]]
      rw [hi, this]; grind
    rw [e, z]; grind
theorem det_lastc {n : Nat} : ∀ {A : Mt}, (∀ r, r < n → A r n = 0) → det (n + 1) A = A n n * det n A := by
  induction n with
  | zero =>
    intro A _
    show 0 + psg 0 * A 0 0 * 1 = A 0 0 * 1
    rw [show psg 0 = 1 from rfl]; grind
  | succ n ih =>
    intro A h
    rw [det_succ (n + 1) A, det_succ n A, ← sm_mul]
    show sm (n + 1) _ + psg (n + 1) * A 0 (n + 1) * det (n + 1) (cut A (n + 1)) = _
    have e : sm (n + 1) (fun j => psg j * A 0 j * det (n + 1) (cut A j)) = sm (n + 1) fun j => A (n + 1) (n + 1) * (psg j * A 0 j * det n (cut A j)) := sm_congr fun j hj => by
      have sn : sk j n = n + 1 := by unfold sk; rw [if_neg (by omega)]
      have hi := ih (A := cut A j) fun r hr => by
        show A (r + 1) (sk j n) = 0
        rw [sn]; exact h _ (by omega)
      have : cut A j n n = A (n + 1) (n + 1) := by
        show A (n + 1) (sk j n) = _
        rw [sn]
      rw [hi, this]; grind
    rw [e, h 0 (by omega)]; grind
theorem det_zeros {n : Nat} : ∀ {A : Mt} {k : Nat}, k < n → (∀ i c, k ≤ i → i < n → c ≤ k → A i c = 0) → det n A = 0 := by
  induction n with
  | zero => intro A k h; omega
  | succ n ih =>
    intro A k hk h
    rw [det_succ]
    refine sm_zero' fun j hj => ?_
    cases k with
    | zero =>
      cases j with
      | zero => rw [h 0 0 (by omega) (by omega) (by omega)]; grind
      | succ j =>
        rw [ih (A := cut A (j + 1)) (k := 0) (by omega) fun i c _ hi hc => ?_]
        · grind
        · obtain rfl : c = 0 := by omega
          show A (i + 1) (sk (j + 1) 0) = 0
          exact h (i + 1) 0 (by omega) (by omega) (by omega)
    | succ k =>
      rw [ih (A := cut A j) (k := k) (by omega) fun i c hi hi2 hc => ?_]
      · grind
      · show A (i + 1) (sk j c) = 0
        exact h (i + 1) _ (by omega) (by omega) (by unfold sk; split <;> omega)
def rpl (i j : Nat) : Nat → Nat := fun c => if c = i then j else c
theorem det_idcol {k i j : Nat} {H : Mt} (hi : i < k) (h : ∀ r c, r < k → c < k → H r c = if r = c then 1 else 0) : det k (fun r c => H r (rpl i j c)) = H i j := by
  have e1 := det_scale (n := k) (A := setr (fun r c => H r (rpl i j c)) i fun c => if c = i then 1 else 0) (r := i) (H i j) hi
  have e2 : det k (setr (setr (fun r c => H r (rpl i j c)) i fun c => if c = i then 1 else 0) i fun c => H i j * setr (fun r c => H r (rpl i j c)) i (fun c => if c = i then 1 else 0) i c) = det k (fun r c => H r (rpl i j c)) := by
    refine det_congr fun r c hr hc => ?_
    by_cases hri : r = i
    · subst hri
      simp only [setr, if_true, rpl]
      by_cases hc2 : c = r
      · simp only [hc2, if_true]; grind
      · simp only [hc2, if_false]; rw [h r c hr hc, if_neg (Ne.symm hc2)]; grind
    · simp only [setr, hri, if_false]
  rw [e2] at e1
  rw [e1]
  generalize hB : setr (fun r c => H r (rpl i j c)) i (fun c => if c = i then 1 else 0) = B
  have e3 := (Rop.refl (n := k) B).elim (j := i) hi k (Nat.le_refl k)
  rw [e3.det1, det_id k fun r c hr hc => ?_]
  · grind
  · subst hB
    by_cases hri : r = i
    · subst hri
      simp only [elimTo, setr, if_true, hr, ne_eq, not_true_eq_false, and_false, if_false]
      by_cases hc2 : c = r
      · rw [if_pos hc2, if_pos hc2.symm]
      · rw [if_neg hc2, if_neg (Ne.symm hc2)]
    · simp only [elimTo, setr, hr, hri, ne_eq, not_false_eq_true, and_self, if_true, if_false, rpl]
      by_cases hc2 : c = i
      · subst hc2
        simp only [if_true, if_neg hri]
        grind
      · simp only [hc2, if_false]
        rw [h r c hr hc]
        grind
structure BI (n k : Nat) (A M : Mt) (pv : Rat) : Prop where
  nz : pv ≠ 0
  d : det k A = pv
  id : ∀ i c, i < n → c < k → M i c = if i = c then pv else 0
  c : ∀ l j, l < n → A l j = sm k (fun i => A l i * (M i j / pv)) + (if k ≤ l then M l j / pv else 0)
theorem BI.hid {n k : Nat} {A M : Mt} {pv : Rat} (H : BI n k A M pv) {i c : Nat} (hi : i < n) (hc : c < k) : M i c / pv = if i = c then 1 else 0 := by
  have h1 := H.nz
  rw [H.id i c hi hc]
  split <;> grind
theorem BI.low {n k : Nat} {A M : Mt} {pv : Rat} (H : BI n k A M pv) (hk : k ≤ n) {i : Nat} (hi : i < n) (hik : k ≤ i) (j : Nat) :
    det (k + 1) (fun r c => A (if r < k then r else i) (if c < k then c else j)) = M i j := by
  have e : det (k + 1) (fun r c => A (if r < k then r else i) (if c < k then c else j)) = det (k + 1) (mm (k + 1) (fun r m => if m < k then A (if r < k then r else i) m else if r = k then 1 else 0) fun m c => M (if m < k then m else i) (if c < k then c else j) / pv) := by
    refine det_congr fun r c hr hc => ?_
    have hl : (if r < k then r else i) < n := by split <;> omega
    rw [H.c _ _ hl]
    show _ = sm k (fun m => (if m < k then A (if r < k then r else i) m else if r = k then 1 else 0) * (M (if m < k then m else i) (if c < k then c else j) / pv)) + (if k < k then A (if r < k then r else i) k else if r = k then 1 else 0) * (M (if k < k then k else i) (if c < k then c else j) / pv)
    congr 1
    · refine sm_congr fun m hm => ?_
      rw [if_pos hm, if_pos hm]
    · rw [if_neg (Nat.lt_irrefl k), if_neg (Nat.lt_irrefl k)]
      by_cases h : r < k
      · rw [if_pos h, if_neg (by omega : ¬ k ≤ r), if_neg (by omega : ¬ r = k)]; grind
      · rw [if_neg h, if_pos hik, if_pos (by omega : r = k)]; grind
  rw [e, det_mm, ← det_gdet, det_lastc fun r hr => by rw [if_neg (Nat.lt_irrefl k), if_neg (by omega)]]
  rw [if_neg (Nat.lt_irrefl k), if_pos rfl, det_last fun c hc => by
    show M (if k < k then k else i) (if c < k then c else j) / pv = 0
    rw [if_neg (Nat.lt_irrefl k), if_pos hc, H.hid hi hc, if_neg (by omega)]]
  have d1 : det k (fun r m => if m < k then A (if r < k then r else i) m else if r = k then 1 else 0) = pv := by
    rw [← H.d]
    exact det_congr fun r c hr hc => by rw [if_pos hc, if_pos hr]
  have d2 : det k (fun m c => M (if m < k then m else i) (if c < k then c else j) / pv) = 1 := det_id k fun r c hr hc => by
    rw [if_pos hr, if_pos hc, H.hid (by omega) hc]
  rw [if_neg (Nat.lt_irrefl k), if_neg (Nat.lt_irrefl k), d1, d2]
  have := H.nz
  grind
theorem BI.high {n k : Nat} {A M : Mt} {pv : Rat} (H : BI n k A M pv) (hk : k ≤ n) {i : Nat} (hi : i < k) (j : Nat) :
    det k (fun r c => A r (rpl i j c)) = M i j := by
  have e : det k (fun r c => A r (rpl i j c)) = det k (mm k A fun m c => M m (rpl i j c) / pv) := by
    refine det_congr fun r c hr hc => ?_
    rw [H.c _ _ (by omega), if_neg (by omega)]
    unfold mm
    grind
  rw [e, det_mm, ← det_gdet, det_idcol (H := fun m c => M m c / pv) hi fun r c hr hc => H.hid (by omega) hc, H.d]
  have := H.nz
  grind
def bstp (k : Nat) (M : Mt) (pv : Rat) : Mt := fun i j => if i = k then M k j else (M k k * M i j - M i k * M k j) / pv
theorem BI.step {n k : Nat} {A M : Mt} {pv : Rat} (H : BI n k A M pv) (hk : k < n) (hp : M k k ≠ 0) : BI n (k + 1) A (bstp k M pv) (M k k) := by
  have hv := H.nz
  refine ⟨hp, ?_, fun i c hi hc => ?_, fun l j hl => ?_⟩
  · rw [← H.low (by omega) hk (Nat.le_refl k) k]
    refine det_congr fun r c hr hc => ?_
    have e1 : (if r < k then r else k) = r := by split <;> omega
    have e2 : (if c < k then c else k) = c := by split <;> omega
    rw [e1, e2]
  · unfold bstp
    by_cases hik : i = k
    · subst hik
      rw [if_pos rfl]
      by_cases hc2 : i = c
      · subst hc2; rw [if_pos rfl]
      · rw [if_neg hc2, H.id i c hi (by omega), if_neg hc2]
    · rw [if_neg hik]
      by_cases hc2 : c = k
      · subst hc2; rw [if_neg hik]; grind
      · rw [H.id i c hi (by omega), H.id k c hk (by omega), if_neg (by omega : ¬ k = c)]
        split <;> grind
  · have a1 := H.c l j hl
    have a2 := H.c l k hl
    have e1 : sm k (fun i => A l i * (bstp k M pv i j / M k k)) = sm k (fun i => A l i * (M i j / pv)) + -(M k j / M k k) * sm k (fun i => A l i * (M i k / pv)) := by
      rw [← sm_mul, ← sm_add]
      refine sm_congr fun i hi => ?_
      unfold bstp
      rw [if_neg (by omega)]
      grind
    have e2 : bstp k M pv k j = M k j := by unfold bstp; rw [if_pos rfl]
    show A l j = sm k _ + A l k * (bstp k M pv k j / M k k) + _
    rw [e1, e2]
    generalize sm k (fun i => A l i * (M i j / pv)) = S1 at *
    generalize sm k (fun i => A l i * (M i k / pv)) = S2 at *
    rcases Nat.lt_trichotomy l k with h | h | h
    · rw [if_neg (by omega)] at a1 a2
      rw [if_neg (by omega), a1, a2]
      grind
    · subst h
      rw [if_pos (Nat.le_refl _)] at a1 a2
      rw [if_neg (by omega), a1, a2]
      grind
    · rw [if_pos (by omega)] at a1 a2
      rw [if_pos (by omega), a1, a2]
      unfold bstp
      rw [if_neg (by omega)]
      grind
theorem BI.swp {n k : Nat} {A M : Mt} {pv : Rat} (H : BI n k A M pv) {r s : Nat} (hr : k ≤ r) (hr2 : r < n) (hs : k ≤ s) (hs2 : s < n) : BI n k (swp A r s) (swp M r s) pv := by
  have hk : ∀ B : Mt, ∀ i, i < k → Go.S.swp B r s i = B i := fun B i hi => by
    unfold Go.S.swp
    rw [if_neg (by omega), if_neg (by omega)]
  refine ⟨H.nz, ?_, fun i c hi hc => ?_, fun l j hl => ?_⟩
  · rw [← H.d]
    exact det_congr fun i c hi hc => by rw [hk A i hi]
  · by_cases hik : i < k
    · rw [hk M i hik, H.id i c hi hc]
    · unfold Go.S.swp
      rw [H.id _ c (by split <;> (try split) <;> omega) hc, if_neg (by split <;> (try split) <;> omega), if_neg (by omega)]
  · rw [sm_congr (g := fun i => Go.S.swp A r s l i * (M i j / pv)) fun i hi => by rw [hk M i hi]]
    unfold Go.S.swp
    rw [H.c _ j (by split <;> (try split) <;> omega)]
    congr 1
    by_cases hik : k ≤ l
    · rw [if_pos hik, if_pos (by split <;> (try split) <;> omega)]
    · rw [if_neg hik, if_neg (by split <;> (try split) <;> omega)]
theorem BI.none {n k : Nat} {A M : Mt} {pv : Rat} (H : BI n k A M pv) (hk : k < n) (h : ∀ i, k ≤ i → i < n → M i k = 0) : det n A = 0 := by
  have e : det n A = det n (mm n (fun l i => if i < k then A l i else if i = l then 1 else 0) fun i j => M i j / pv) := by
    refine det_congr fun l j hl hj => ?_
    rw [H.c l j hl]
    unfold mm
    have key : ∀ d, k + d ≤ n → sm (k + d) (fun i => (if i < k then A l i else if i = l then 1 else 0) * (M i j / pv)) = sm k (fun i => A l i * (M i j / pv)) + if k ≤ l ∧ l < k + d then M l j / pv else 0 := by
      intro d
      induction d with
      | zero =>
        intro _
        rw [if_neg (by omega), Nat.add_zero, sm_congr (g := fun i => A l i * (M i j / pv)) fun i hi => by rw [if_pos hi]]
        grind
      | succ d ih =>
        intro hd
        show sm (k + d) _ + (if k + d < k then A l (k + d) else if k + d = l then 1 else 0) * (M (k + d) j / pv) = _
        rw [ih (by omega), if_neg (by omega : ¬ k + d < k)]
        by_cases h1 : k + d = l
        · rw [if_pos h1, if_neg (by omega), if_pos (by omega), h1]; grind
        · rw [if_neg h1]
          by_cases h2 : k ≤ l ∧ l < k + d
          · rw [if_pos h2, if_pos (by omega)]; grind
          · rw [if_neg h2, if_neg (by omega)]; grind
    have := key (n - k) (by omega)
    rw [show k + (n - k) = n by omega] at this
    rw [this]
    congr 1
    by_cases h1 : k ≤ l
    · rw [if_pos h1, if_pos ⟨h1, hl⟩]
    · rw [if_neg h1, if_neg (by omega)]
  rw [e, det_mm, det_zeros (k := k) hk fun i c hi hi2 hc => by
    by_cases h1 : c = k
    · rw [h1, h i hi hi2]; grind
    · rw [H.hid hi2 (by omega), if_neg (by omega)]]
  grind
def isI (x : Rat) : Prop := ∃ z : Int, x = z
theorem BI.int {n k : Nat} {A M : Mt} {pv : Rat} (H : BI n k A M pv) (hk : k ≤ n) (h : ∀ i, i < n → ∀ j, isI (A i j)) {i : Nat} (hi : i < n) (j : Nat) : isI (M i j) := by
  by_cases hik : k ≤ i
  · rw [← H.low hk hi hik j]
    exact det_int _ fun r c hr hc => h _ (by split <;> omega) _
  · rw [← H.high hk (by omega) j]
    exact det_int _ fun r c hr hc => h _ (by omega) _
structure BS where
  M : Mt
  neg : Bool
  pv : Rat
def sgb (b : Bool) : Rat := if b then -1 else 1
structure BP (n : Nat) (A B : Mt) (neg : Bool) : Prop where
  all : ∀ P : (Nat → Rat) → Prop, (∀ i, i < n → P (A i)) ↔ (∀ i, i < n → P (B i))
  det : ∀ γ : Nat → Nat, Go.S.det n (fun i c => B i (γ c)) = sgb neg * Go.S.det n (fun i c => A i (γ c))
theorem BP.refl (n : Nat) (A : Mt) : BP n A A false := ⟨fun _ => Iff.rfl, fun γ => by unfold sgb; rw [if_neg (by decide)]; grind⟩
theorem BP.swp {n : Nat} {A B : Mt} {neg : Bool} (H : BP n A B neg) {r s : Nat} (hr : r < n) (hs : s < n) (h : r ≠ s) : BP n A (swp B r s) (!neg) := by
  refine ⟨fun P => (H.all P).trans ⟨fun h2 i hi => ?_, fun h2 i hi => ?_⟩, fun γ => ?_⟩
  · unfold Go.S.swp
    exact h2 _ (by split <;> (try split) <;> omega)
  · have h3 := h2 (if i = r then s else if i = s then r else i) (by split <;> (try split) <;> omega)
    unfold Go.S.swp at h3
    by_cases h4 : i = r
    · subst h4; simp only [if_true, Ne.symm h, if_false] at h3; exact h3
    · by_cases h5 : i = s
      · subst h5; simp only [Ne.symm h, if_true, if_false] at h3; exact h3
      · simp only [h4, h5, if_false] at h3; exact h3
  · have e := det_swp (A := fun i c => B i (γ c)) h hr hs
    have e2 : Go.S.swp (fun i c => B i (γ c)) r s = fun i c => Go.S.swp B r s i (γ c) := rfl
    rw [e2] at e
    rw [e, H.det γ]
    unfold sgb
    cases neg <;> simp <;> grind
end Go.S

end
section
set_option linter.unusedVariables false
set_option linter.unusedSimpArgs false
namespace Go.S
section
variable {α : Type} [Inhabited α]
def rwg (c : Nat) (f : Nat → α) : List α := (List.range c).map f
theorem rwg_congr {c : Nat} {f g : Nat → α} (h : ∀ j, j < c → f j = g j) : rwg c f = rwg c g := List.map_congr_left fun j hj => h j (by simpa using hj)
theorem rwg_set {c j : Nat} {f : Nat → α} {x : α} (h : j < c) : (rwg c f).set j x = rwg c fun y => if y = j then x else f y := by
  refine List.ext_getElem (by simp [rwg]) fun k h1 h2 => ?_
  rw [List.getElem_set]
  by_cases e : j = k
  · subst e; simp [rwg]
  · simp [rwg, e, Ne.symm e]
end
end Go.S

end
section
set_option linter.unusedVariables false
set_option linter.unusedSimpArgs false
namespace Go.S
open Go.K
abbrev Zt := Nat → Nat → Int
def zq (A : Zt) : Mt := fun i j => ((A i j : Int) : Rat)
def nz (M : Mt) : Zt := fun i j => (M i j).num
theorem zinj {a b : Int} (h : (a : Rat) = (b : Rat)) : a = b := Rat.intCast_inj.1 h
structure ZS where
  Z : Zt
  neg : Bool
  pv : Int
def swz (A : Zt) (r s : Nat) : Zt := fun i => A (if i = r then s else if i = s then r else i)
structure ZN (n c k : Nat) (s : ZS) (r : Nat) (t : ZS) : Prop where
  kr : k ≤ r
  rn : r < n
  z : ∀ i, k ≤ i → i < r → s.Z i k = 0
  p : s.Z r k ≠ 0
  v : s.pv ≠ 0
  neg : t.neg = if k = r then s.neg else !s.neg
  pv : t.pv = s.Z r k
  at_ : ∀ j, t.Z k j = s.Z r j
  d : ∀ i, i < n → i ≠ k → ∀ j, s.pv * t.Z i j = s.Z r k * swz s.Z k r i j - swz s.Z k r i k * s.Z r j
end Go.S

end
section
set_option linter.unusedVariables false
set_option linter.unusedSimpArgs false
set_option maxRecDepth 100000
namespace Go.S
open Go Go.AM Go.RowKit Go.K
theorem s_divide_Exact {x y q : Int} (hx : 0 ≤ x) (hy : 0 < y) (hq : y * q = x) (h1 : L x < 1000000000) (h2 : L y < 1000000000) : CP (CL F) 95 [eN x, eN y] = some (.tup [eN q, eI 0]) := by
  refine ev_cp (exact_ev (x := x) (y := y) hx (by omega) (by rw [L_nat hx]; exact h1) (by rw [L_nat (x := y) (by omega)]; exact h2)) fun _ h => ?_
  have e := e_divide_Exact h
  have hr : exactR x y = (dg B q, 0) := by
    have a1 : x / y = q := by rw [← hq]; exact Int.mul_ediv_cancel_left q (by omega)
    have a2 : x % y = 0 := by rw [← hq]; exact Int.mul_emod_right y q
    unfold exactR
    rw [if_neg (by omega), if_pos a2, a1]
  rw [hr] at e
  exact e
theorem L_ab (x : Int) : L (ab x) = L x := by unfold L; rw [ab_of_nonneg (ab_nonneg x)]
abbrev aB (tb : AV) (pv : Int) (neg : Bool) : AV := .agg [tb, .bool (decide (pv < 0)), eN (ab pv), .bool neg]
structure WB (n c : Nat) (Z : Zt) (neg : Bool) (pv : Int) (G : Heap) (key : Nat → Nat) (vt b : Nat) : Prop where
  work : G[0]? = some (some ⟨0, 4, [aB (.ref (b + 3) vt 1 0 n) pv neg]⟩)
  tab : G[3]? = some (some ⟨vt, 1, rwg n fun i => .ref (b + key i) 0 2 0 c⟩)
  row : ∀ i, i < n → G[key i]? = some (some ⟨0, 2, em eZ (rwg c (Z i))⟩)
  ne : ∀ i, i < n → key i ≠ 0 ∧ key i ≠ 3
  inj : ∀ i j, i < n → j < n → key i = key j → i = j
theorem WB.congr {n c : Nat} {Z Z' : Zt} {neg : Bool} {pv : Int} {G : Heap} {key : Nat → Nat} {vt b : Nat} (H : WB n c Z neg pv G key vt b) (h : ∀ i, i < n → ∀ j, j < c → Z' i j = Z i j) : WB n c Z' neg pv G key vt b :=
  ⟨H.work, H.tab, fun i hi => by rw [rwg_congr (h i hi)]; exact H.row i hi, H.ne, H.inj⟩
end Go.S

end
section
set_option linter.unusedVariables false
set_option linter.unusedSimpArgs false
set_option maxRecDepth 100000
namespace Go.S
open Go Go.AM Go.RowKit Go.K
def key0 (i : Nat) : Nat := if i = 0 then 1 else 2 * i + 2
theorem WB.one (c : Nat) (Z : Zt) (b : Nat) : WB 1 c Z false 1 [some ⟨0, 4, [.agg [.ref (b + 3) 0 1 0 1, .bool false, eN (ab 1), .bool false]]⟩, some ⟨0, 2, em eZ (rwg c (Z 0))⟩, some ⟨0, 1, [.ref (b + 1) 0 2 0 c]⟩, some ⟨0, 1, [.ref (b + 1) 0 2 0 c]⟩] key0 0 b :=
  ⟨rfl, rfl, fun i hi => by
    obtain rfl : i = 0 := by omega
    rfl, fun i hi => by
    obtain rfl : i = 0 := by omega
    exact ⟨by decide, by decide⟩, fun i j hi hj _ => by omega⟩
theorem WB.swap {n c : Nat} {Z : Zt} {neg : Bool} {pv : Int} {G : Heap} {key : Nat → Nat} {v b : Nat} (H : WB n c Z neg pv G key v b) {k r : Nat} (hk : k < n) (hr : r < n) (neg' : Bool) :
    WB n c (swz Z k r) neg' pv ((G.set 3 (some ⟨v, 1, ((rwg n fun i => .ref (b + key i) 0 2 0 c).set r (.ref (b + key k) 0 2 0 c)).set k (.ref (b + key r) 0 2 0 c)⟩)).set 0 (some ⟨0, 4, [aB (.ref (b + 3) v 1 0 n) pv neg']⟩)) (fun j => key (if j = k then r else if j = r then k else j)) v b := by
  have l0 := (List.getElem?_eq_some_iff.1 H.work).1
  have l3 := (List.getElem?_eq_some_iff.1 H.tab).1
  have sl : ∀ j, j < n → (if j = k then r else if j = r then k else j) < n := fun j hj => by split <;> (try split) <;> omega
  refine ⟨?_, ?_, fun j hj => ?_, fun j hj => H.ne _ (sl j hj), fun i j hi hj h => ?_⟩
  · rw [List.getElem?_set_self (by rw [List.length_set]; exact l0)]
  · rw [List.getElem?_set_ne (by omega), List.getElem?_set_self l3, rwg_set hr, rwg_set hk]
    congr 4
    funext j
    by_cases e1 : j = k
    · rw [if_pos e1, if_pos e1]
    · rw [if_neg e1, if_neg e1]
      by_cases e2 : j = r
      · rw [if_pos e2, if_pos e2]
      · rw [if_neg e2, if_neg e2]
  · have ne := H.ne _ (sl j hj)
    rw [List.getElem?_set_ne (Ne.symm ne.1), List.getElem?_set_ne (Ne.symm ne.2)]
    exact H.row _ (sl j hj)
  · have := H.inj _ _ (sl i hi) (sl j hj) h
    split at this <;> split at this <;> (try split at this) <;> (try split at this) <;> omega
end Go.S

end
section
set_option linter.unusedVariables false
set_option linter.unusedSimpArgs false
set_option maxRecDepth 100000
namespace Go.S
open Go Go.AM Go.RowKit Go.K
theorem WB.eqs {n c : Nat} {Z Z' : Zt} {neg : Bool} {pv : Int} {G : Heap} {key : Nat → Nat} {vt b : Nat} (H : WB n c Z neg pv G key vt b) (h : ∀ i, i < n → Z' i = Z i) : WB n c Z' neg pv G key vt b :=
  H.congr fun i hi j _ => by rw [h i hi]
set_option maxHeartbeats 1000000
end Go.S

end
section
set_option linter.unusedVariables false
namespace Go.S
open Go Go.AM Go.RowKit Go.K
def runsTrue2 (F : Nat → Option AFunc) (n f : Nat) : Bool := match callN F n f [] [] with
  | some (.bool b, _) => b
  | _ => false
theorem CP_run2 {F : Nat → Option AFunc} {f : Nat} (n : Nat) (h : runsTrue2 F n f = true) : CP (CL F) f [] = some (.bool true) := by
  unfold runsTrue2 at h
  split at h
  · next b g hb =>
    subst h
    exact CP_raw (CL_of n hb) rfl
  · cases h
end Go.S

end
section
set_option linter.unusedVariables false
set_option linter.unusedSimpArgs false
set_option maxRecDepth 100000
namespace Go.S
open Go Go.AM Go.RowKit Go.K
abbrev XZ := Bool × List Int
def XZ.ok (x : XZ) : Prop := (∀ y ∈ x.2, 0 ≤ y) ∧ x.2.length < 17592186044416
instance : Inhabited XZ := ⟨(false, [])⟩
end Go.S

end
section
set_option linter.unusedVariables false
set_option linter.unusedSimpArgs false
set_option maxRecDepth 100000
namespace Go.S
open Go Go.AM Go.RowKit Go.K
def XR (b c0 K0 : Nat) (g : Heap) (c : AV) (r : List Int) : Prop := (r = [] ∧ c = .nil) ∨ ∃ k v, k < K0 ∧ c = .ref (b + (c0 + (k + 1))) v 2 0 r.length ∧ g[k]? = some (some ⟨v, 2, em eZ r⟩)
theorem XR.le {b c0 K0 K1 : Nat} {g : Heap} {c : AV} {r : List Int} (h : XR b c0 K0 g c r) (hk : K0 ≤ K1) : XR b c0 K1 g c r := by
  rcases h with h | ⟨k, v, h1, h2, h3⟩
  · exact .inl h
  · exact .inr ⟨k, v, by omega, h2, h3⟩
theorem XR.set {b c0 K0 : Nat} {g : Heap} {c : AV} {r : List Int} (h : XR b c0 K0 g c r) {j : Nat} (hj : K0 ≤ j) (x : Option Blk) : XR b c0 K0 (g.set j x) c r := by
  rcases h with h | ⟨k, v, h1, h2, h3⟩
  · exact .inl h
  · exact .inr ⟨k, v, h1, h2, by rw [List.getElem?_set_ne (by omega)]; exact h3⟩
theorem XR.frz {h0 G g : Heap} {b c0 K0 : Nat} {c : AV} {r : List Int} {x : Option Blk} (h : XR b c0 K0 g c r) (hb : h0.length = b) (hc : G.length = c0) (n : Nat) : Go.AM.frz (h0 ++ (G ++ (x :: g))) (n + 3) c = some (eRZ r) := by
  rcases h with ⟨rfl, rfl⟩ | ⟨k, v, h1, rfl, h3⟩
  · rfl
  · have hbk : blk (h0 ++ (G ++ (x :: g))) (b + (c0 + (k + 1))) v = some ⟨v, 2, em eZ r⟩ := by
      unfold blk
      rw [← hb, ← hc, get_app, get_app, List.getElem?_cons_succ, h3]
      exact if_pos rfl
    show (blk _ _ v).bind (fun b => ((sub b.xs 0 r.length).mapM (Go.AM.frz _ (n + 2))).map AV.lst) = _
    rw [hbk]
    show ((sub (em eZ r) 0 r.length).mapM (Go.AM.frz _ (n + 2))).map AV.lst = _
    rw [sub_full, mapM_some (G := fun x => x) _ fun x hx => by
      obtain ⟨z, _, rfl⟩ := List.mem_map.1 hx
      exact (frz_plain1 (E_eZ.pl z)).1]
    simp
end Go.S

end
section
set_option linter.unusedVariables false
set_option linter.unusedSimpArgs false
set_option maxRecDepth 100000
namespace Go.S
open Go Go.AM Go.RowKit Go.K
def ivl (l : List Nat) : List Int := l.map fun n : Nat => (n : Int)
end Go.S

end
section
set_option linter.unusedVariables false
set_option linter.unusedSimpArgs false
set_option maxRecDepth 100000
namespace Go.S
open Go Go.AM Go.RowKit Go.K
def PV (g : Heap) (piv : List Nat) (pr : AV) : Prop := (piv = [] ∧ pr = .nil) ∨ ∃ vp g1 g2, g = g1 ++ some ⟨vp, 1, ui (ivl piv)⟩ :: g2 ∧ pr = .ref (g1.length + 1 + 1 + 1) vp 1 0 piv.length
theorem PV.len {g : Heap} {piv : List Nat} {pr : AV} (h : PV g piv pr) : lenA false pr = some (eI piv.length) := by
  rcases h with ⟨rfl, rfl⟩ | ⟨vp, g1, g2, _, rfl⟩ <;> rfl
end Go.S

end
section
set_option linter.unusedVariables false
set_option linter.unusedSimpArgs false
set_option maxRecDepth 100000
namespace Go.S
open Go Go.AM Go.RowKit Go.K
theorem RowsIn.same {b : Nat} {g g' : Heap} {f : Rat → AV} {cs : List AV} {t : List (List Rat)} {ks : List Nat} (h : RowsIn b g f cs t ks) (h2 : ∀ k ∈ ks, g'[k]? = g[k]?) : RowsIn b g' f cs t ks := by
  refine ⟨h.1, h.2.1, fun i hi => ?_⟩
  obtain ⟨v, ys, h3, h4⟩ := h.2.2 i hi
  refine ⟨v, ys, h3, ?_⟩
  rw [h2 _ (getD_mem (by rw [h.2.1]; exact hi))]
  exact h4
set_option maxHeartbeats 4000000
end Go.S

end
section
set_option linter.unusedVariables false
set_option linter.unusedSimpArgs false
set_option maxRecDepth 100000
namespace Go.S
open Go Go.AM Go.RowKit Go.K
def lcs (m : Nat) (l : List Rat) : Nat := l.foldl (fun m q => Nat.lcm m q.den) m
theorem lcs_snoc (m : Nat) (l : List Rat) (q : Rat) : lcs m (l ++ [q]) = Nat.lcm (lcs m l) q.den := by unfold lcs; rw [List.foldl_append]; rfl
theorem lcs_dvd : ∀ (l : List Rat) (m : Nat), m ∣ lcs m l ∧ ∀ q ∈ l, q.den ∣ lcs m l := by
  intro l
  induction l with
  | nil => intro m; exact ⟨Nat.dvd_refl m, fun q hq => by cases hq⟩
  | cons x l ih =>
    intro m
    obtain ⟨h1, h2⟩ := ih (Nat.lcm m x.den)
    refine ⟨Nat.dvd_trans (Nat.dvd_lcm_left m x.den) h1, fun q hq => ?_⟩
    rcases List.mem_cons.1 hq with rfl | hq
    · exact Nat.dvd_trans (Nat.dvd_lcm_right m q.den) h1
    · exact h2 q hq
theorem lcs_pos : ∀ (l : List Rat) (m : Nat), 0 < m → 0 < lcs m l := by
  intro l
  induction l with
  | nil => intro m h; exact h
  | cons x l ih => intro m h; exact ih _ (Nat.lcm_pos h x.den_pos)
theorem lcm_eq (m n : Nat) (h : 0 < m) : Nat.lcm m n = m / Nat.gcd m n * n := by
  have hg : 0 < Nat.gcd m n := Nat.gcd_pos_of_pos_left n h
  refine Nat.eq_of_mul_eq_mul_left hg ?_
  rw [Nat.gcd_mul_lcm, ← Nat.mul_assoc, Nat.mul_div_cancel' (Nat.gcd_dvd_left m n)]
theorem lcm_eq2 (m n : Nat) (h : 0 < m) : Nat.lcm m n = m * (n / Nat.gcd m n) := by
  have hg : 0 < Nat.gcd m n := Nat.gcd_pos_of_pos_left n h
  refine Nat.eq_of_mul_eq_mul_left hg ?_
  rw [Nat.gcd_mul_lcm, Nat.mul_left_comm, Nat.mul_div_cancel' (Nat.gcd_dvd_right m n)]
theorem L_nle {m n : Nat} (h : m ≤ n) : L (m : Int) ≤ L (n : Int) := L_mono (by unfold ab; omega)
theorem L_lcm (m n : Nat) (hm : 0 < m) (hn : 0 < n) : L ((Nat.lcm m n : Nat) : Int) ≤ L (m : Int) + L (n : Int) := by
  have h1 : Nat.lcm m n ≤ m * n := Nat.le_of_dvd (Nat.mul_pos hm hn) (Nat.lcm_dvd_mul m n)
  have h2 := L_nle h1
  have h3 := L_mul (m : Int) (n : Int)
  rw [Int.natCast_mul] at h2
  omega
theorem lcs_L {K : Nat} : ∀ (l : List Rat) (m : Nat), 0 < m → (∀ q ∈ l, Lq q ≤ K) → L ((lcs m l : Nat) : Int) ≤ L (m : Int) + l.length * K := by
  intro l
  induction l with
  | nil => intro m _ _; show L (m : Int) ≤ _; omega
  | cons x l ih =>
    intro m hm h
    have h1 := ih (Nat.lcm m x.den) (Nat.lcm_pos hm x.den_pos) fun q hq => h q (List.mem_cons_of_mem _ hq)
    have h2 := L_lcm m x.den hm x.den_pos
    have h3 := Lq_den x
    have h4 := h x (List.mem_cons_self ..)
    show L ((lcs (Nat.lcm m x.den) l : Nat) : Int) ≤ _
    rw [List.length_cons, Nat.add_mul]
    omega
def clr (M : Nat) (q : Rat) : Int := q.num * ((M / q.den : Nat) : Int)
theorem clr_cast {M : Nat} {q : Rat} (h : q.den ∣ M) : ((clr M q : Int) : Rat) = q * ((M : Int) : Rat) := by
  obtain ⟨k, rfl⟩ := h
  unfold clr
  rw [Nat.mul_div_cancel_left k q.den_pos, Rat.intCast_mul, Int.natCast_mul, Rat.intCast_mul]
  have e : ((q.num : Int) : Rat) = q * ((q.den : Int) : Rat) := by
    have hd : ((q.den : Int) : Rat) ≠ 0 := by
      intro h
      have := q.den_pos
      have h2 : (q.den : Int) = 0 := zinj (b := 0) h
      omega
    have h3 : Rat.divInt q.num q.den = q := Rat.num_divInt_den q
    rw [Rat.divInt_eq_div] at h3
    grind
  rw [e]
  grind
theorem clr_L {M : Nat} {q : Rat} (h : q.den ∣ M) (hM : 0 < M) : L (clr M q) ≤ L q.num + L (M : Int) := by
  have h1 := L_mul q.num ((M / q.den : Nat) : Int)
  have h2 := L_nle (Nat.div_le_self M q.den)
  unfold clr
  omega
theorem s_Euclid {m n : Nat} (h1 : L (m : Int) < 1000000000) (h2 : L (n : Int) < 1000000000) : CP (CL F) 140 [eN m, eN n] = some (eN (Nat.gcd m n : Nat)) :=
  ev_cp (euclid_ev (m := m) (n := n) (by rw [L_nat (by omega)]; exact h1) (by rw [L_nat (by omega)]; exact h2)) fun _ h => e_gcd_Euclid h
theorem s_mul_Mul {x y : Int} (hx : 0 ≤ x) (hy : 0 ≤ y) (h1 : L x < 500000000) (h2 : L y < 500000000) : CP (CL F) 97 [eN x, eN y] = some (eN (x * y)) :=
  ev_cp (mul_ev hx hy (by rw [L_nat hx]; exact h1) (by rw [L_nat hy]; exact h2)) fun _ h => e_mul_Mul h
theorem s_Lcm {m n : Nat} (hm : 0 < m) (h1 : L (m : Int) < 100000000) (h2 : L (n : Int) < 100000000) : CP (CL F) 94 [eN m, eN n] = some (eN (Nat.lcm m n : Nat)) := by
  refine CP_X (F := F) (f := 94) rfl rfl ?_
  have hg : 0 < Nat.gcd m n := Nat.gcd_pos_of_pos_left n hm
  have k1 := s_Euclid (m := m) (n := n) (by omega) (by omega)
  have k2 := s_divide_Exact (x := m) (y := (Nat.gcd m n : Nat)) (q := (m / Nat.gcd m n : Nat)) (by omega) (by omega) (by rw [← Int.natCast_mul, Nat.mul_div_cancel' (Nat.gcd_dvd_left m n)]) (by omega) (by have := L_nle (Nat.gcd_le_left n hm); omega)
  have k3 := s_mul_Mul (x := (m / Nat.gcd m n : Nat)) (y := (n : Int)) (Int.natCast_nonneg _) (Int.natCast_nonneg _) (by have := L_nle (Nat.div_le_self m (Nat.gcd m n)); omega) (by omega)
  rw [← Int.natCast_mul, ← lcm_eq m n hm] at k3
  clear hg h1 h2 hm
  refine go3 ?_
  trivial
theorem sg_mul (z : Int) (k : Nat) : sg (decide (z < 0)) (ab z * (k : Int)) = z * (k : Int) := by
  unfold sg
  by_cases h : z < 0
  · rw [decide_eq_true h, if_pos rfl, ab_of_neg h, Int.neg_mul, Int.neg_neg]
  · rw [decide_eq_false h, if_neg (by decide), ab_of_nonneg (by omega)]
theorem s_Clear {l : List Rat} (hl : l.length ≤ 1000) {K : Nat} (hK : K ≤ 10000) (h : ∀ q ∈ l, Lq q ≤ K) : CP (CL F) 45 [eR l] = some (.tup [eRZ (l.map (clr (lcs 1 l))), eN (lcs 1 l : Nat)]) := by
  refine CP_X (F := F) (f := 45) rfl rfl ?_
  have one := s_nat_Of (x := 1) (by decide) (by decide)
  replace one : CP (CL F) 93 [.int .u64 1] = some (eN (lcs 1 (l.take 0) : Nat)) := one
  have hLm : ∀ i, L ((lcs 1 (l.take i) : Nat) : Int) ≤ 1 + 10000000 := fun i => by
    have h1 := lcs_L (K := K) (l.take i) 1 (by decide) fun q hq => h q (List.mem_of_mem_take hq)
    have h2 : (l.take i).length * K ≤ 1000 * 10000 := Nat.mul_le_mul (by rw [List.length_take]; omega) hK
    have h3 : L ((1 : Nat) : Int) ≤ 1 := L_one
    omega
  have lc : ∀ i, i < l.length → CP (CL F) 94 [eN (lcs 1 (l.take i) : Nat), eN ((l.getD i default).den : Int)] = some (eN (lcs 1 (l.take (i + 1)) : Nat)) := fun i hi => by
    have := s_Lcm (m := lcs 1 (l.take i)) (n := (l.getD i default).den) (lcs_pos _ 1 (by decide)) (by have := hLm i; omega) (by have := h _ (getD_mem hi); have := Lq_den (l.getD i default); omega)
    rw [take_succ_getD l i hi, lcs_snoc]
    exact this
  have hM := hLm l.length
  rw [List.take_length] at hM
  have hdv := (lcs_dvd l 1).2
  have hMp := lcs_pos l 1 (by decide)
  have g : ∀ i, i < l.length → (em eQ l)[i]? = some (eQ (l.getD i default)) := fun i hi => em_getN l i hi
  have hfin : lcs 1 (l.take l.length) = lcs 1 l := by rw [List.take_length]
  generalize lcs 1 l = M at *
  have dv : ∀ i, i < l.length → CP (CL F) 95 [eN (M : Int), eN ((l.getD i default).den : Int)] = some (.tup [eN (M / (l.getD i default).den : Nat), eI 0]) := fun i hi => by
    refine s_divide_Exact (by omega) (by have := (l.getD i default).den_pos; omega) ?_ (by omega) (by have := h _ (getD_mem hi); have := Lq_den (l.getD i default); omega)
    rw [← Int.natCast_mul, Nat.mul_div_cancel' (hdv _ (getD_mem hi))]
  have ml : ∀ i, i < l.length → CP (CL F) 97 [eN (ab (l.getD i default).num), eN (M / (l.getD i default).den : Nat)] = some (eN (ab (l.getD i default).num * (M / (l.getD i default).den : Nat))) := fun i hi =>
    s_mul_Mul (ab_nonneg _) (Int.natCast_nonneg _) (by rw [L_ab]; have := h _ (getD_mem hi); have := Lq_num (l.getD i default); omega) (by have := L_nle (Nat.div_le_self M (l.getD i default).den); omega)
  have md : ∀ i, i < l.length → CP (CL F) 96 [.bool (decide ((l.getD i default).num < 0)), eN (ab (l.getD i default).num * (M / (l.getD i default).den : Nat))] = some (eZ (clr M (l.getD i default))) := fun i hi => by
    have := s_whole_Made (decide ((l.getD i default).num < 0)) (n := ab (l.getD i default).num * (M / (l.getD i default).den : Nat)) (Int.mul_nonneg (ab_nonneg _) (Int.natCast_nonneg _)) (by
      have h1 := L_mul (ab (l.getD i default).num) ((M / (l.getD i default).den : Nat) : Int)
      have h2 := L_nle (Nat.div_le_self M (l.getD i default).den)
      have h3 := L_ab (l.getD i default).num
      have := h _ (getD_mem hi); have := Lq_num (l.getD i default)
      omega)
    rwa [sg_mul] at this
  have hl2 : l.length < 1000000 := by omega
  clear h hLm hM hdv hMp hK
  refine go3 ?_
  refine X_up l.length (fun i s => ∃ j6 j16 h', s = ⟨[(0, eR l), (2, .nil), (3, .nil), (4, eN (lcs 1 (l.take i) : Nat)), (6, j6), (7, .undef), (9, .undef), (10, .undef), (13, eR l), (14, eI l.length), (15, eI i), (16, j16), (24, .undef), (25, .undef), (26, .undef), (27, .undef)], h'⟩) ?_ ?_ 0 (Nat.zero_le _) _ ⟨_, _, _, rfl⟩
  · rintro i s hi ⟨j6, j16, h', rfl⟩ rec
    have hlt := lt_c hi
    have g1 := g i hi
    have g2 := lc i hi
    generalize lcs 1 (l.take i) = m1 at *
    generalize lcs 1 (l.take (i + 1)) = m2 at *
    generalize l.getD i default = q at *
    have hw := i64_nat (n := i) (by omega)
    clear g lc dv ml md hfin one
    refine go3 ?_
    exact rec _ ⟨_, _, _, rfl⟩
  · rintro s ⟨j6, j16, h', rfl⟩
    have hlt : ¬ ((l.length : Int) < (l.length : Int)) := nlt_c
    rw [hfin]
    clear lc hfin one
    refine go3 ?_
    rcases Nat.eq_zero_or_pos l.length with e | e
    · obtain rfl := List.eq_nil_of_length_eq_zero e
      clear g dv ml md e
      refine X_round ?_
      refine go3 ?_
      trivial
    · have hlt0 : ((0 : Int) < (l.length : Int)) := by omega
      have g0 := g 0 e
      have d0 := dv 0 e
      have m0 := ml 0 e
      have w0 := md 0 e
      have hw1 : wrap64 (0 + 1) = 1 := by rw [show (0 : Int) + 1 = 1 from rfl, w64 (by omega) (by omega)]
      have ht1 : (l.take 1).map (clr M) = [clr M (l.getD 0 default)] := by rw [take_succ_getD l 0 e]; rfl
      have hs0 : [eZ (clr M (l.getD 0 default))] = em eZ ((l.take 1).map (clr M)) := by rw [ht1]; rfl
      replace hs0 := eq_true hs0
      clear ht1
      generalize l.getD 0 default = q at *
      refine X_round ?_
      refine go3 ?_
      refine X_up l.length (fun i s => ∃ j9 j10 j27 v x y g2, s = ⟨[(0, eR l), (2, .nil), (3, .nil), (4, eN (M : Int)), (6, j6), (7, .ref (h'.length + 2) v 2 0 i), (9, j9), (10, j10), (13, eR l), (14, eI l.length), (15, eI l.length), (16, .bool false), (24, eR l), (25, eI l.length), (26, eI i), (27, j27)], h' ++ (x :: y :: some ⟨v, 2, em eZ ((l.take i).map (clr M))⟩ :: g2)⟩) ?_ ?_ 1 e _ ⟨_, _, _, _, _, _, _, by rw [show List.take 1 l = [l.getD 0 default] from by rw [take_succ_getD l 0 e]; rfl]; rfl⟩
      · rintro i s hi ⟨j9, j10, j27, v, x, y, g2, rfl⟩ rec
        have hlt := lt_c hi
        have g1 := g i hi
        have d1 := dv i hi
        have m1 := ml i hi
        have w1 := md i hi
        have hlen : ((l.take i).map (clr M)).length = i := by simp; omega
        have ht : List.take i ((l.take i).map (clr M)) = (l.take i).map (clr M) := take_len_g _ hlen.symm
        have hs : (l.take i).map (clr M) ++ [clr M (l.getD i default)] = (l.take (i + 1)).map (clr M) := by rw [take_succ_getD l i hi]; simp
        have hlim : i < 4398046511104 := by omega
        have hi6 : i < 9223372036854775807 := by omega
        generalize l.getD i default = q1 at *
        generalize (l.take i).map (clr M) = R at *
        generalize (l.take (i + 1)).map (clr M) = R' at *
        have hw := i64_nat hi6
        clear g dv ml md g0 d0 m0 w0 hs0 hlen
        refine go3 ?_
        exact rec _ ⟨_, _, _, _, _, _, _, rfl⟩
      · rintro s ⟨j9, j10, j27, v, x, y, g2, rfl⟩
        have hlen : (l.map (clr M)).length = l.length := by simp
        rw [List.take_length]
        have ht : List.take l.length (l.map (clr M)) = l.map (clr M) := take_len_g _ hlen.symm
        generalize l.map (clr M) = R at *
        clear g dv ml md g0 d0 m0 w0 hs0 hlen
        refine go3 ?_
        trivial
end Go.S

end
section
set_option linter.unusedVariables false
set_option linter.unusedSimpArgs false
set_option maxRecDepth 100000
namespace Go.S
open Go Go.AM Go.RowKit Go.K
theorem s_works16 : CP (CL F) 42 [] = some (.bool true) := CP_run2 300 (by decide +kernel)
end Go.S

end
section
set_option linter.unusedVariables false
set_option linter.unusedSimpArgs false
set_option maxRecDepth 100000
namespace Go.S
open Go Go.AM Go.RowKit Go.K
theorem rQ_int (z : Int) : rQ (z : Rat) = .agg [.bool (decide (z < 0)), rN (ab z), rN 1] := by
  unfold rQ
  rw [Rat.num_intCast, Rat.den_intCast]
  rfl
theorem s_rClear {l : List Rat} (hl : l.length ≤ 1000) {K : Nat} (hK : K ≤ 1000) (h : ∀ q ∈ l, Lq q ≤ K) : CP (CL F) 46 [rR l] = some (.tup [rR (l.map (· * (((lcs 1 l : Nat) : Int) : Rat))), rN (lcs 1 l : Nat)]) := by
  refine CP_X (F := F) (f := 46) rfl rfl ?_
  have one : CP (CL F) 52 [eI 1] = some (rN (lcs 1 (l.take 0) : Nat)) := s_r02_Num (n := 1) (by decide) (by decide)
  have hLm : ∀ i, L ((lcs 1 (l.take i) : Nat) : Int) ≤ 1 + 1000000 := fun i => by
    have h1 := lcs_L (K := K) (l.take i) 1 (by decide) fun q hq => h q (List.mem_of_mem_take hq)
    have h2 : (l.take i).length * K ≤ 1000 * 1000 := Nat.mul_le_mul (by rw [List.length_take]; omega) hK
    have h3 : L ((1 : Nat) : Int) ≤ 1 := L_one
    omega
  have hmp : ∀ i, 0 < lcs 1 (l.take i) := fun i => lcs_pos _ 1 (by decide)
  have den : ∀ i, i < l.length → 0 < (l.getD i default).den ∧ L ((l.getD i default).den : Int) ≤ K := fun i hi => ⟨(l.getD i default).den_pos, by have := h _ (getD_mem hi); have := Lq_den (l.getD i default); omega⟩
  have gc : ∀ i, i < l.length → CP (CL F) 99 [rN (lcs 1 (l.take i) : Nat), rN ((l.getD i default).den : Int)] = some (rN (Nat.gcd (lcs 1 (l.take i)) (l.getD i default).den : Nat)) := fun i hi =>
    s_r02_Gcd (Int.natCast_nonneg _) (Int.natCast_nonneg _) (by have := hLm i; omega) (by have := (den i hi).2; omega)
  have dv : ∀ i, i < l.length → ∃ r, CP (CL F) 98 [rN ((l.getD i default).den : Int), rN (Nat.gcd (lcs 1 (l.take i)) (l.getD i default).den : Nat)] = some (.tup [rN ((l.getD i default).den / Nat.gcd (lcs 1 (l.take i)) (l.getD i default).den : Nat), rN r]) := fun i hi => by
    have hg := Nat.gcd_pos_of_pos_left (l.getD i default).den (hmp i)
    exact ⟨_, s_r02_Div (x := ((l.getD i default).den : Int)) (y := ((Nat.gcd (lcs 1 (l.take i)) (l.getD i default).den : Nat) : Int)) (Int.natCast_nonneg _) (by omega) (by have := (den i hi).2; omega) (by have := L_nle (Nat.gcd_le_left (l.getD i default).den (hmp i)); have := hLm i; omega)⟩
  have ml : ∀ i, i < l.length → CP (CL F) 100 [rN (lcs 1 (l.take i) : Nat), rN ((l.getD i default).den / Nat.gcd (lcs 1 (l.take i)) (l.getD i default).den : Nat)] = some (rN (lcs 1 (l.take (i + 1)) : Nat)) := fun i hi => by
    have := s_r02_Mul (x := ((lcs 1 (l.take i) : Nat) : Int)) (y := (((l.getD i default).den / Nat.gcd (lcs 1 (l.take i)) (l.getD i default).den : Nat) : Int)) (Int.natCast_nonneg _) (Int.natCast_nonneg _) (by have := hLm i; omega) (by have := L_nle (Nat.div_le_self (l.getD i default).den (Nat.gcd (lcs 1 (l.take i)) (l.getD i default).den)); have := (den i hi).2; omega)
    rw [← Int.natCast_mul, ← lcm_eq2 _ _ (hmp i)] at this
    rw [take_succ_getD l i hi, lcs_snoc]
    exact this
  have hM := hLm l.length
  rw [List.take_length] at hM
  have g : ∀ i, i < l.length → (em rQ l)[i]? = some (rQ (l.getD i default)) := fun i hi => em_getN l i hi
  have hfin : lcs 1 (l.take l.length) = lcs 1 l := by rw [List.take_length]
  have n11 := s_r08_Int (n := 1) (by decide) (by decide)
  have mq : ∀ i, i < l.length → CP (CL F) 84 [rQ (l.getD i default), rQ (((lcs 1 l : Nat) : Int) : Rat)] = some (rQ (l.getD i default * (((lcs 1 l : Nat) : Int) : Rat))) := fun i hi => s_r08_Mul (by have := h _ (getD_mem hi); omega) (by have := Lq_int ((lcs 1 l : Nat) : Int); omega)
  have hst := rQ_int ((lcs 1 l : Nat) : Int)
  have hlt0 : decide ((((lcs 1 l : Nat) : Int)) < 0) = false := decide_eq_false (by omega)
  rw [hlt0, ab_of_nonneg (Int.natCast_nonneg _)] at hst
  generalize lcs 1 l = M at *
  rw [rQ_int 1] at n11
  have hd1 : decide ((1 : Int) < 0) = false := by decide
  rw [hd1] at n11
  have hl2 : l.length < 1000000 := by omega
  have b0 : (false || true) = true := rfl
  have b1 : ∀ x : Bool, (true || x) = true := fun _ => rfl
  clear h hLm hM hK hmp den hlt0 hd1
  refine go3 ?_
  refine X_up l.length (fun i s => ∃ j6 j15, s = ⟨[(0, rR l), (2, .nil), (3, .nil), (4, rN (lcs 1 (l.take i) : Nat)), (5, eI i), (6, j6), (8, .undef), (9, .undef), (10, .undef), (15, j15), (41, .undef)], []⟩) ?_ ?_ 0 (Nat.zero_le _) _ ⟨_, _, rfl⟩
  · rintro i s hi ⟨j6, j15, rfl⟩ rec
    have hlt := lt_c hi
    have g1 := g i hi
    have k1 := gc i hi
    obtain ⟨r, k2⟩ := dv i hi
    have k3 := ml i hi
    generalize lcs 1 (l.take i) = m1 at *
    generalize lcs 1 (l.take (i + 1)) = m2 at *
    generalize l.getD i default = q at *
    have hw := i64_nat (n := i) (by omega)
    clear g gc dv ml mq hfin one n11
    refine go3 ?_
    exact rec _ ⟨_, _, rfl⟩
  · rintro s ⟨j6, j15, rfl⟩
    have hlt : ¬ ((l.length : Int) < (l.length : Int)) := nlt_c
    rw [hfin]
    clear gc dv ml hfin one
    refine go3 ?_
    refine X_up l.length (fun i s => ∃ j10 j41 v g', s = ⟨[(0, rR l), (2, .nil), (3, .nil), (4, rN (M : Int)), (5, eI l.length), (6, j6), (8, .ref 0 v 3 0 i), (9, eI i), (10, j10), (15, .bool false), (41, j41)], some ⟨v, 3, em rQ ((l.take i).map (· * ((M : Int) : Rat)))⟩ :: g'⟩) ?_ ?_ 0 (Nat.zero_le _) _ ⟨_, _, _, [], rfl⟩
    · rintro i s hi ⟨j10, j41, v, g', rfl⟩ rec
      have hlt := lt_c hi
      have g1 := g i hi
      have k1 := mq i hi
      have hlen : ((l.take i).map (· * ((M : Int) : Rat))).length = i := by simp; omega
      have ht : List.take i ((l.take i).map (· * ((M : Int) : Rat))) = (l.take i).map (· * ((M : Int) : Rat)) := take_len_g _ hlen.symm
      have hs : (l.take i).map (· * ((M : Int) : Rat)) ++ [l.getD i default * ((M : Int) : Rat)] = (l.take (i + 1)).map (· * ((M : Int) : Rat)) := by rw [take_succ_getD l i hi]; simp
      have hlim : i < 2513169434916 := by omega
      have hi6 : i < 9223372036854775807 := by omega
      generalize (l.take i).map (· * ((M : Int) : Rat)) = R at *
      generalize (l.take (i + 1)).map (· * ((M : Int) : Rat)) = R' at *
      generalize l.getD i default * ((M : Int) : Rat) = qm at *
      generalize l.getD i default = q at *
      have hw := i64_nat hi6
      have hst2 := hst.symm
      clear g mq hst
      refine go3 ?_
      exact rec _ ⟨_, _, _, _, rfl⟩
    · rintro s ⟨j10, j41, v, g', rfl⟩
      have hlen : (l.map (· * ((M : Int) : Rat))).length = l.length := by simp
      rw [List.take_length]
      have ht : List.take l.length (l.map (· * ((M : Int) : Rat))) = l.map (· * ((M : Int) : Rat)) := take_len_g _ hlen.symm
      generalize l.map (· * ((M : Int) : Rat)) = R at *
      clear g mq hst
      refine go3 ?_
      trivial
theorem den_mul {M : Nat} {q : Rat} (h : q.den ∣ M) : q * ((M : Int) : Rat) = ((clr M q : Int) : Rat) := (clr_cast h).symm
theorem law_SolveClears {t : List XQ} (ht : ∀ x ∈ t, x.ok) : CP (CL F) 8 [.lst (em eX t)] = some (.bool true) := by
  obtain ⟨l, l1, l2, l3⟩ := s_Few ht (most := 6) (by decide)
  replace l3 : CP (CL F) 44 [.lst (em eX t), eI 6] = _ := l3
  have ll : l.length ≤ 6 := by omega
  have k1 := s_Clear (l := l) (by omega) (K := 1) (by omega) l2
  have k2 := s_rClear (l := l) (by omega) (K := 1) (by omega) l2
  have w := s_works16
  have hM := lcs_L (K := 1) l 1 (by decide) l2
  have hM1 : L ((1 : Nat) : Int) ≤ 1 := L_one
  have hMp := lcs_pos l 1 (by decide)
  have hdv := (lcs_dvd l 1).2
  rw [show l.map (· * (((lcs 1 l : Nat) : Int) : Rat)) = (l.map (clr (lcs 1 l))).map fun z : Int => (z : Rat) from by
    rw [List.map_map]
    exact List.map_congr_left fun q hq => den_mul (hdv q hq)] at k2
  have hL : ∀ z ∈ l.map (clr (lcs 1 l)), L z < 100000000 := fun z hz => by
    obtain ⟨q, hq, rfl⟩ := List.mem_map.1 hz
    have h1 := clr_L (hdv q hq) hMp
    have h2 := Lq_num q
    have h3 := l2 q hq
    omega
  have b1 := s_r02_Back (x := ((lcs 1 l : Nat) : Int)) (Int.natCast_nonneg _) (by omega)
  have b2 := s_r02_Same (dg B ((lcs 1 l : Nat) : Int)) (dg B ((lcs 1 l : Nat) : Int)) (by rw [L_nat (Int.natCast_nonneg _)]; omega)
  rw [decide_eq_true rfl] at b2
  have hzl : (l.map (clr (lcs 1 l))).length = l.length := by simp
  generalize l.map (clr (lcs 1 l)) = z at *
  have zl : (z.map fun z : Int => (z : Rat)).length = z.length := by simp
  have bk : ∀ i, i < z.length → CP (CL F) 50 [rZ (z.getD i default)] = some (eZ (z.getD i default)) := fun i hi => s_r07_Back (hL _ (getD_mem hi))
  have sm : ∀ i, i < z.length → CP (CL F) 49 [eZ (z.getD i default), eZ (z.getD i default)] = some (.bool true) := fun i hi => by
    have := s_r07_Same (x := z.getD i default) (y := z.getD i default) (by have := hL _ (getD_mem hi); omega)
    rwa [decide_eq_true rfl] at this
  have n1 := s_r02_Num (n := 1) (by decide) (by decide)
  have cm := s_r02_Cmp (x := 1) (y := 1) (by decide) (by decide) (by have := L_one; omega)
  rw [show cmpI 1 1 = 0 from rfl] at cm
  have ge : ∀ i, i < z.length → (em eZ z)[i]? = some (eZ (z.getD i default)) := fun i hi => em_getN z i hi
  have gr : ∀ i, i < z.length → (em rQ (z.map fun z : Int => (z : Rat)))[i]? = some (.agg [.bool (decide (z.getD i default < 0)), rN (ab (z.getD i default)), rN 1]) := fun i hi => by
    have h1 := em_getN (f := rQ) (z.map fun z : Int => (z : Rat)) i (by rw [zl]; exact hi)
    have h2 : (z.map fun z : Int => (z : Rat)).getD i default = ((z.getD i default : Int) : Rat) := by
      simp [List.getD, List.getElem?_map, List.getElem?_eq_getElem hi]
    rw [h2, rQ_int] at h1
    exact h1
  have z6 : z.length < 1000000 := by omega
  refine CP_X (F := F) (f := 8) rfl rfl ?_
  generalize hM2 : lcs 1 l = M at *
  generalize (z.map fun z : Int => (z : Rat)) = zq at *
  have b0 : (false || true) = true := rfl
  have b3 : ∀ x : Bool, (true || x) = true := fun _ => rfl
  clear hL hM hM1 hMp hdv ht l1 l2 hM2 hzl ll
  refine go3 ?_
  refine X_up z.length (fun i s => ∃ j40 j64, s = ⟨[(0, .lst (em eX t)), (2, .bool false), (3, eR l), (4, rR l), (5, eRZ z), (6, eN (M : Int)), (7, rR zq), (8, rN (M : Int)), (9, eI i), (36, .bool false), (40, j40), (64, j64)], []⟩) ?_ ?_ 0 (Nat.zero_le _) _ ⟨_, _, rfl⟩
  · rintro i s hi ⟨j40, j64, rfl⟩ rec
    have hlt := lt_c hi
    have q1 := ge i hi
    have q2 := gr i hi
    have q3 := bk i hi
    have q4 := sm i hi
    have z00 : ¬ ((0 : Int) ≠ 0) := by decide
    generalize z.getD i default = x at *
    have hw := i64_nat (n := i) (by omega)
    clear ge gr bk sm b1 b2 k1 k2 l3
    refine go3 ?_
    exact rec _ ⟨_, _, rfl⟩
  · rintro s ⟨j40, j64, rfl⟩
    have hlt : ¬ ((z.length : Int) < (z.length : Int)) := nlt_c
    clear ge gr bk sm b1 b2 k1 k2 l3
    refine go3 ?_
    trivial
end Go.S

end
