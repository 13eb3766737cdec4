/- A part of the proof of the law BareissSolved: an abstract machine for the functions' code with its soundness, words, lemmas (assembled by a program). -/
import Derived.Test.YtflnfnemhgjglaaCBareissSolved5
set_option linter.unusedVariables false
set_option linter.unusedSimpArgs false
set_option linter.unusedSectionVars false
section
set_option linter.unusedVariables false
set_option linter.unusedSimpArgs false
set_option maxRecDepth 100000
namespace Go.S
open Go Go.AM Go.RowKit Go.K
theorem fewz_len (most : Nat) (t : List (List XZ)) : (fewz most t).length ≤ most := by unfold fewz; simp; omega
theorem fewz_row {most : Nat} {t : List (List XZ)} {r : List Int} (h : r ∈ fewz most t) : r.length ≤ most ∧ ∀ z ∈ r, L z ≤ 2 := by
  unfold fewz at h
  obtain ⟨l, _, rfl⟩ := List.mem_map.1 h
  refine ⟨by simp; omega, fun z hz => ?_⟩
  obtain ⟨x, _, rfl⟩ := List.mem_map.1 hz
  exact clz_L x
theorem getD_out {α : Type} {l : List α} {i : Nat} {d : α} (h : l.length ≤ i) : l.getD i d = d := by rw [List.getD_eq_getElem?_getD, List.getElem?_eq_none h]; rfl
theorem eng_size {t : List (List Int)} {K : Nat} (h : ∀ r ∈ t, ∀ z ∈ r, L z ≤ K) (i j : Nat) : L (eng t i j) ≤ K := by
  unfold eng
  by_cases hi : i < t.length
  · have hm := getD_mem (l := t) hi
    by_cases hj : j < (t.getD i default).length
    · exact h _ hm _ (getD_mem hj)
    · rw [show (t.getD i default).getD j default = 0 from getD_out (by omega), L_zero]; omega
  · have e : t.getD i default = [] := getD_out (by omega)
    rw [e]
    show L 0 ≤ K
    rw [L_zero]; omega
theorem zB_4 {n : Nat} (h : n ≤ 6) : 2 + zB 2 n < 10000000 ∧ zB 2 n < 1000000 := by
  match n, h with
  | 0, _ => decide
  | 1, _ => decide
  | 2, _ => decide
  | 3, _ => decide
  | 4, _ => decide
  | 5, _ => decide
  | 6, _ => decide
theorem two_pow_6 {n : Nat} (h : n ≤ 6) : 2 ^ n * (2 + 2) < 100000000 := by
  have : 2 ^ n ≤ 2 ^ 6 := Nat.pow_le_pow_right (by decide) h
  omega
end Go.S

end
section
set_option linter.unusedVariables false
set_option linter.unusedSimpArgs false
set_option maxRecDepth 100000
namespace Go.S
open Go Go.AM Go.RowKit Go.K
def abz (n : Nat) (A B : Zt) : Zt := fun i j => if j < n then A i j else B i (j - n)
def XR (b c0 K0 : Nat) (g : Heap) (c : AV) (r : List Int) : Prop := (r = [] ∧ c = .nil) ∨ ∃ k v, k < K0 ∧ c = .ref (b + (c0 + (k + 1))) v 2 0 r.length ∧ g[k]? = some (some ⟨v, 2, em eZ r⟩)
theorem XR.grow {b c0 K0 : Nat} {g : Heap} {c : AV} {r : List Int} (h : XR b c0 K0 g c r) (l : Heap) : XR b c0 K0 (g ++ l) c r := by
  rcases h with h | ⟨k, v, h1, h2, h3⟩
  · exact .inl h
  · exact .inr ⟨k, v, h1, h2, app_get h3 l⟩
theorem XR.le {b c0 K0 K1 : Nat} {g : Heap} {c : AV} {r : List Int} (h : XR b c0 K0 g c r) (hk : K0 ≤ K1) : XR b c0 K1 g c r := by
  rcases h with h | ⟨k, v, h1, h2, h3⟩
  · exact .inl h
  · exact .inr ⟨k, v, by omega, h2, h3⟩
theorem XR.set {b c0 K0 : Nat} {g : Heap} {c : AV} {r : List Int} (h : XR b c0 K0 g c r) {j : Nat} (hj : K0 ≤ j) (x : Option Blk) : XR b c0 K0 (g.set j x) c r := by
  rcases h with h | ⟨k, v, h1, h2, h3⟩
  · exact .inl h
  · exact .inr ⟨k, v, h1, h2, by rw [List.getElem?_set_ne (by omega)]; exact h3⟩
theorem mapM_rwg {F : AV → Option AV} {n : Nat} {c G : Nat → AV} (h : ∀ i, i < n → F (c i) = some (G i)) : (rwg n c).mapM F = some (rwg n G) := by
  induction n with
  | zero => rfl
  | succ n ih =>
    rw [← rwg_snoc, ← rwg_snoc, List.mapM_append, ih fun i hi => h i (by omega), List.mapM_cons, h n (by omega)]
    rfl
theorem em_tbg (n m : Nat) (f : Zt) : em eRZ (tbg n m f) = rwg n fun i => eRZ (rwg m (f i)) := by simp [em, tbg, rwg]
theorem XR.frz {h0 G g : Heap} {b c0 K0 : Nat} {c : AV} {r : List Int} {x : Option Blk} (h : XR b c0 K0 g c r) (hb : h0.length = b) (hc : G.length = c0) (n : Nat) : Go.AM.frz (h0 ++ (G ++ (x :: g))) (n + 3) c = some (eRZ r) := by
  rcases h with ⟨rfl, rfl⟩ | ⟨k, v, h1, rfl, h3⟩
  · rfl
  · have hbk : blk (h0 ++ (G ++ (x :: g))) (b + (c0 + (k + 1))) v = some ⟨v, 2, em eZ r⟩ := by
      unfold blk
      rw [← hb, ← hc, get_app, get_app, List.getElem?_cons_succ, h3]
      exact if_pos rfl
    show (blk _ _ v).bind (fun b => ((sub b.xs 0 r.length).mapM (Go.AM.frz _ (n + 2))).map AV.lst) = _
    rw [hbk]
    show ((sub (em eZ r) 0 r.length).mapM (Go.AM.frz _ (n + 2))).map AV.lst = _
    rw [sub_full, mapM_some (G := fun x => x) _ fun x hx => by
      obtain ⟨z, _, rfl⟩ := List.mem_map.1 hx
      exact (frz_plain1 (E_eZ.pl z)).1]
    simp
theorem fz_XR {h0 G g : Heap} {b c0 K0 n m : Nat} (k : Nat) {cell : Nat → AV} {f : Zt} (h : ∀ i, i < n → XR b c0 K0 g (cell i) (rwg m (f i))) (hb : h0.length = b) (hc : G.length = c0) :
    fzR (Go.AM.frz (h0 ++ (G ++ (some ⟨0, 1, rwg n cell⟩ :: g))) (k + 3)) (some (some ⟨0, 1, rwg n cell⟩)) 0 0 n = some (eTZ (tbg n m f)) := by
  have e : sub (rwg n cell) 0 n = rwg n cell := by
    unfold sub
    rw [List.drop_zero]
    exact List.take_of_length_le (by rw [rwg_len]; omega)
  show (if 0 = 0 then ((sub (rwg n cell) 0 n).mapM (Go.AM.frz _ (k + 3))).map AV.lst else none) = _
  rw [if_pos rfl, e, mapM_rwg (G := fun i => eRZ (rwg m (f i))) fun i hi => (h i hi).frz hb hc k, ← em_tbg]
  rfl
end Go.S

end
section
set_option linter.unusedVariables false
set_option linter.unusedSimpArgs false
set_option maxRecDepth 100000
namespace Go.S
open Go Go.AM Go.RowKit Go.K
def bsol (n m : Nat) (A B : Zt) : AV := match zrun n (abz n A B) n with
  | none => .tup [.lst [], .agg [.bool false, .lst []], eI 7]
  | some s => .tup [eTZ (tbg n m fun i j => sgz s.neg * s.Z i (n + j)), eZ (sgz s.neg * s.pv), eI 0]
set_option maxHeartbeats 1000000
theorem s_bSolve {n m K : Nat} {A B : Zt} (h0n : 0 < n) (hn : n ≤ 100) (hm : m ≤ 100) (hA : ∀ i, i < n → ∀ j, j < n → L (A i j) ≤ K) (hB : ∀ i, i < n → ∀ j, j < m → L (B i j) ≤ K) (hK : 2 ^ n * (K + 2) < 100000000) :
    CP (CL F) 19 [eTZ (tbg n n A), eTZ (tbg n m B)] = some (bsol n m A B) := by
  refine CP_X (F := F) (f := 19) rfl rfl ?_
  have k1 := s_shaped (t := tbg n n A) (by rw [tbg_len]; omega) n
  rw [shp_iff.2 ⟨by rw [tbg_len]; exact hn, hn, tbg_row⟩] at k1
  have k2 := s_shaped (t := tbg n m B) (by rw [tbg_len]; omega) m
  rw [shp_iff.2 ⟨by rw [tbg_len]; exact hn, hm, tbg_row⟩] at k2
  have tl := tbg_len n n A
  have ul := tbg_len n m B
  have gA : ∀ i, i < n → (em eRZ (tbg n n A))[i]? = some (eRZ (rwg n (A i))) := fun i hi => by
    have := em_getN (f := eRZ) (tbg n n A) i (by rw [tbg_len]; exact hi)
    rwa [tbg_get hi] at this
  have gB : ∀ i, i < n → (em eRZ (tbg n m B))[i]? = some (eRZ (rwg m (B i))) := fun i hi => by
    have := em_getN (f := eRZ) (tbg n m B) i (by rw [tbg_len]; exact hi)
    rwa [tbg_get hi] at this
  have g0 := gB 0 h0n
  have l0 := rwg_len m (B 0)
  have cc : ∀ i, CP (CL F) 39 [.lst (em eRZ [rwg n (A i), rwg m (B i)])] = some (eRZ (rwg (n + m) (abz n A B i))) := fun i => by
    have := z_Concat (a := rwg n (A i)) (b := rwg m (B i)) (by rw [rwg_len]; omega) (by rw [rwg_len]; omega)
    rwa [rwg_app] at this
  have hlt0 : ((0 : Int) < (n : Int)) := by omega
  have lim : (n : Int) ≤ 11728124029610 := by omega
  have lim2 : n ≤ 11728124029610 := by omega
  have hAB : ∀ i, i < n → ∀ j, j < n + m → L (abz n A B i j) ≤ K := fun i hi j hj => by
    unfold abz
    split
    · next h => exact hA i hi j h
    · exact hB i hi _ (by omega)
  have sn : ∀ i, tbg i (n + m) (abz n A B) ++ [rwg (n + m) (abz n A B i)] = tbg (i + 1) (n + m) (abz n A B) := fun i => tbg_snoc i _ _
  generalize tbg n n A = TA at *
  generalize tbg n m B = TB at *
  clear hA hB
  unfold bsol
  generalize abz n A B = C at *
  generalize hP : (match zrun n C n with
  | none => AV.tup [.lst [], .agg [.bool false, .lst []], eI 7]
  | some s => .tup [eTZ (tbg n m fun i j => sgz s.neg * s.Z i (n + j)), eZ (sgz s.neg * s.pv), eI 0]) = P
  have c0 : ∀ h : Heap, True := fun _ => trivial
  refine go3 ?_
  refine X_up n (fun i s => ∃ j10 j47 g, s = ⟨[(0, eTZ TA), (1, eTZ TB), (4, .nil), (5, .ptr 0 0 0 0), (6, eI 0), (7, eI n), (8, eI m), (9, .ref 1 0 1 0 n), (10, j10), (11, .undef), (12, .undef), (13, .undef), (15, .undef), (20, .bool true), (40, .bool false), (45, eI n), (46, eI i), (47, j47), (67, .undef), (72, .undef), (73, .undef), (74, .undef), (84, .undef), (85, .undef), (86, .undef), (87, .undef)], some ⟨0, 2, [zZ]⟩ :: some ⟨0, 1, em eRZ (tbg i (n + m) C) ++ List.replicate (n - i) .nil⟩ :: g⟩) ?_ ?_ 0 (Nat.zero_le _) _ ⟨_, _, _, rfl⟩
  · rintro i s hi ⟨j10, j47, g, rfl⟩ rec
    have hlt := lt_c hi
    have g1 := gA i hi
    have g2 := gB i hi
    have g3 := cc i
    have s1 := sn i
    obtain ⟨d, hd⟩ : ∃ d, n - i = d + 1 := ⟨n - i - 1, by omega⟩
    have hd2 : n - (i + 1) = d := by omega
    rw [hd]
    rw [hd2] at rec
    have fl := tbg_len i (n + m) C
    have f1 := fill_get (f := eRZ) (tbg i (n + m) C) d .nil
    have f2 := fill_set (f := eRZ) (tbg i (n + m) C) d .nil (rwg (n + m) (C i))
    rw [fl] at f1 f2
    rw [s1] at f2
    have fp : ∀ (a b : List Int) (h : Heap), fzR (Go.AM.frz h 6) (some (some ⟨0, 1, [eRZ a, eRZ b]⟩)) 0 0 2 = some (.lst (em eRZ [a, b])) := fun a b h => em_fz6 (h := h) (v := 0) (off := 0) (len := 2) E_eRZ [a, b]
    have up : ∀ (a b : List Int) (h : Heap) (i : Nat), usR (used h 6) (some (some ⟨0, 1, [eRZ a, eRZ b]⟩)) i 0 0 2 = [i] := fun a b h i => em_us6 (h := h) (id := i) (v := 0) (off := 0) (len := 2) E_eRZ [a, b]
    have hi6 : i < 9223372036854775807 := by omega
    generalize tbg i (n + m) C = T at *
    generalize tbg (i + 1) (n + m) C = T' at *
    generalize rwg (n + m) (C i) = rc at *
    generalize rwg n (A i) = ra at *
    generalize rwg m (B i) = rb at *
    have hw := i64_nat hi6
    clear gA gB cc sn s1 hd hd2 hAB fl
    refine go3 ?_
    exact rec _ ⟨_, _, _, rfl⟩
  · clear gA gB cc sn k1 k2 c0 g0 l0
    rintro s ⟨j10, j47, g, rfl⟩
    have hlt : ¬ ((n : Int) < (n : Int)) := nlt_c
    rw [Nat.sub_self, show List.replicate 0 AV.nil = [] from rfl, List.append_nil]
    have cl := tbg_len n (n + m) C
    have ct : List.take n (tbg n (n + m) C) = tbg n (n + m) C := take_len_g _ cl.symm
    obtain ⟨h0, hh⟩ : ∃ h0 : Heap, h0 = some ⟨0, 2, [zZ]⟩ :: none :: g := ⟨_, rfl⟩
    obtain ⟨x, p1, G, key, vt, rfl, H⟩ := s_zbegin (Z := C) h0n (by omega) (c := n + m) (by omega) (by omega) h0
    obtain ⟨x, p2, G', H'⟩ := s_zrun H (by omega) (by omega) hAB hK true
    have r0 : h0[0]? = some (some ⟨0, 2, [zZ]⟩) := by rw [hh]; rfl
    have r1 := app_get r0
    have rs := app_set r0
    have hset : ∀ y, (h0.set 0 y)[0]? = some y := fun y => by rw [hh]; rfl
    have hset2 : ∀ y l, (h0.set 0 y ++ l)[0]? = some y := fun y => app_get (hset y)
    have hsize := fun s => zrun_size (s := s) (show n ≤ n + m by omega) hAB (Nat.le_refl n)
    have p1' : CL F 40 [eTZ (tbg n (n + m) C)] (some ⟨0, 2, [zZ]⟩ :: none :: g) = some (.ptr h0.length 0 0 0, h0 ++ G) := by rw [← hh]; exact p1
    clear p1 hh H hAB
    rcases H' with ⟨h1, rfl⟩ | ⟨s, h1, Z, key', vt', rfl, H2, hall⟩
    · rw [h1] at hP
      simp only at hP
      subst hP
      clear hsize h1
      generalize tbg n (n + m) C = T at *
      refine go3 ?_
      trivial
    · obtain ⟨b1, b2⟩ := hsize s h1
      have b3 : ∀ i, i < n → ∀ j, j < n + m → L (s.Z i j) < 100000000 := fun i hi j hj => by have := b1 i hi j hj; omega
      rw [h1] at hP
      simp only at hP
      clear hsize b1
      have hZ := hall rfl
      have H3 := H2.eqs (Z' := s.Z) fun i hi => (hZ i hi).symm
      clear H2 hall hZ h1
      have w1 := H3.work
      have sg : ∀ (l : Heap) (a : Int), L a < 100000000 → CL F 42 [.ptr h0.length 0 0 0, eZ a] (h0 ++ (G' ++ l)) = some (eZ (sgz s.neg * a), h0 ++ (G' ++ (l ++ [some ⟨0, 2, [eZ a]⟩, some ⟨0, 2, [eZ (sgz s.neg * a)]⟩]))) := fun l a ha => by
        have := s_signed (n := n) (c := n + m) (Z := s.Z) (key := key') (vt := vt') (h0 := h0) (app_get w1 l) ha
        rw [List.append_assoc] at this
        exact this
      generalize tbg n (n + m) C = T at *
      refine go3 ?_
      refine X_up n (fun i s' => ∃ j13 j15 j74 j84 j85 j86 j87 cell g', (∀ y, y < i → XR h0.length G'.length g'.length g' (cell y) (rwg m fun j => sgz s.neg * s.Z y (n + j))) ∧ (∀ y, i ≤ y → cell y = .nil) ∧ s' = ⟨[(0, eTZ TA), (1, eTZ TB), (4, .nil), (5, .ptr 0 0 0 0), (6, eI 0), (7, eI n), (8, eI m), (9, .lst (em (eL eZ) T)), (10, j10), (11, .ptr h0.length 0 0 0), (12, .ref (h0.length + G'.length) 0 1 0 n), (13, j13), (15, j15), (20, .bool true), (40, .bool false), (45, eI n), (46, eI n), (47, .bool false), (67, .bool false), (72, eI n), (73, eI i), (74, j74), (84, j84), (85, j85), (86, j86), (87, j87)], h0 ++ (G' ++ (some ⟨0, 1, rwg n cell⟩ :: g'))⟩) ?_ ?_ 0 (Nat.zero_le _) _ ⟨_, _, _, _, _, _, _, fun _ => .nil, [], fun y hy => by omega, fun _ _ => rfl, by rw [show rwg n (fun _ => AV.nil) = List.replicate n AV.nil from by simp [rwg, List.map_const']]; rfl⟩
      · rintro i s' hi ⟨j13, j15, j74, j84, j85, j86, j87, cell, g', hc, hnil, rfl⟩ rec
        have hlt := lt_c hi
        have w2 := H3.tab
        have ri := H3.row i hi
        have t1 := rwg_getE (f := fun i => AV.ref (h0.length + key' i) 0 2 0 (n + m)) hi
        have a1 := app_get w1
        have a2 := app_get w2
        have ai := app_get ri
        have c1 : (n : Int) ≤ ((n + m : Nat) : Int) := by omega
        have e1 : n + m - n = m := by omega
        have hi6 : i < 9223372036854775807 := by omega
        have y1 : ∀ x, ((rwg n cell).set i x)[i]? = some x := fun x => List.getElem?_set_self (by rw [rwg_len]; omega)
        have y2 : ∀ x y, ((rwg n cell).set i x).set i y = (rwg n cell).set i y := fun x y => List.set_set ..
        have qz : ∀ j, j < m → (em eZ (rwg (n + m) (s.Z i)))[n + j]? = some (eZ (s.Z i (n + j))) := fun j hj => by
          have := em_getN (f := eZ) (rwg (n + m) (s.Z i)) (n + j) (by rw [rwg_len]; omega)
          rwa [rwg_get (by omega)] at this
        have bz := b3 i hi
        have hset0 : (rwg n cell).set i .nil = rwg n cell := by
          rw [rwg_set hi]
          refine rwg_congr fun y hy => ?_
          split
          · next e => rw [e]; exact (hnil i (Nat.le_refl i)).symm
          · rfl
        have y0 : (rwg n cell)[i]? = some .nil := by rw [rwg_getE hi, hnil i (Nat.le_refl i)]
        clear hP b3 H3
        refine go3 ?_
        refine X_up m (fun j s' => ∃ j15 j87 cur g'', (∀ y, y < i → XR h0.length G'.length g'.length g'' (cell y) (rwg m fun j => sgz s.neg * s.Z y (n + j))) ∧ g'.length ≤ g''.length ∧ ((j = 0 ∧ cur = .nil) ∨ ∃ k v, g'.length ≤ k ∧ cur = .ref (h0.length + (G'.length + (k + 1))) v 2 0 j ∧ g''[k]? = some (some ⟨v, 2, em eZ (rwg j fun j => sgz s.neg * s.Z i (n + j))⟩)) ∧ s' = ⟨[(0, eTZ TA), (1, eTZ TB), (4, .nil), (5, .ptr 0 0 0 0), (6, eI 0), (7, eI n), (8, eI m), (9, .lst (em (eL eZ) T)), (10, j10), (11, .ptr h0.length 0 0 0), (12, .ref (h0.length + G'.length) 0 1 0 n), (13, eI i), (15, j15), (20, .bool true), (40, .bool false), (45, eI n), (46, eI n), (47, .bool false), (67, .bool false), (72, eI n), (73, eI i), (74, .bool true), (84, .ref (h0.length + key' i) 0 2 n m), (85, eI m), (86, eI j), (87, j87)], h0 ++ (G' ++ (some ⟨0, 1, (rwg n cell).set i cur⟩ :: g''))⟩) ?_ ?_ 0 (Nat.zero_le _) _ ⟨_, _, .nil, g', hc, Nat.le_refl _, .inl ⟨rfl, rfl⟩, by rw [hset0]; rfl⟩
        · clear hc rec
          rintro j s' hj ⟨j15, j87, cur, g'', hc, hge, hcur, rfl⟩ rec2
          have hlt2 := lt_c hj
          have q1 := qz j hj
          have q2 := bz (n + j) (by omega)
          have s1 : ∀ l, CL F 42 [.ptr h0.length 0 0 0, eZ (s.Z i (n + j))] (h0 ++ (G' ++ l)) = some (eZ (sgz s.neg * s.Z i (n + j)), h0 ++ (G' ++ (l ++ [some ⟨0, 2, [eZ (s.Z i (n + j))]⟩, some ⟨0, 2, [eZ (sgz s.neg * s.Z i (n + j))]⟩]))) := fun l => sg l _ q2
          have sn := rwg_snoc j fun j => sgz s.neg * s.Z i (n + j)
          have jl := rwg_len j fun j => sgz s.neg * s.Z i (n + j)
          have jt : List.take j (rwg j fun j => sgz s.neg * s.Z i (n + j)) = rwg j fun j => sgz s.neg * s.Z i (n + j) := take_len_g _ jl.symm
          have hj6 : j < 9223372036854775807 := by omega
          have hlim : j < 4398046511104 := by omega
          have c2 : ((j : Int) < (m : Int)) := by omega
          rcases hcur with ⟨hj0, rfl⟩ | ⟨k, v, hk, rfl, hgk⟩
          · have s0 : [eZ (sgz s.neg * s.Z i (n + j))] = em eZ (rwg (j + 1) fun j => sgz s.neg * s.Z i (n + j)) := by rw [hj0]; rfl
            have hc2 := fun l y hy => (hc y hy).grow l
            generalize hr : (rwg (j + 1) fun j => sgz s.neg * s.Z i (n + j)) = R at *
            generalize sgz s.neg * s.Z i (n + j) = z1 at *
            generalize s.Z i (n + j) = z0 at *
            replace hj0 := eq_true hj0
            replace s0 := eq_true s0
            clear qz bz sg q2 sn jl jt hc
            have hw := i64_nat hj6
            refine go3 ?_
            obtain rfl := of_eq_true hj0
            exact rec2 _ ⟨_, _, _, _, fun y hy => hc2 _ y hy, by simp; omega, .inr ⟨g''.length + 4, 0, by omega, rfl, by rw [get_app, ← of_eq_true s0]; rfl⟩, rfl⟩
          · have ak := app_get hgk
            have asx := app_set hgk
            have hc2 := fun l x y hy => ((hc y hy).set hk x).grow l
            have kl := (List.getElem?_eq_some_iff.1 hgk).1
            generalize hr : (rwg (j + 1) fun j => sgz s.neg * s.Z i (n + j)) = R at *
            generalize (rwg j fun j => sgz s.neg * s.Z i (n + j)) = R0 at *
            generalize sgz s.neg * s.Z i (n + j) = z1 at *
            generalize s.Z i (n + j) = z0 at *
            clear qz bz sg q2 hc hset0 y0
            have hw := i64_nat hj6
            refine go3 ?_
            exact rec2 _ ⟨_, _, _, _, fun y hy => hc2 _ _ y hy, by simp; omega, .inr ⟨k, v + 1, hk, rfl, app_get (List.getElem?_set_self kl) _⟩, rfl⟩
        · clear hc
          rintro s' ⟨j15, j87, cur, g'', hc, hge, hcur, rfl⟩
          have hlt2 : ¬ ((m : Int) < (m : Int)) := nlt_c
          have hcell := rwg_set (f := cell) (x := cur) hi
          have hc1 : ∀ y, y < i + 1 → XR h0.length G'.length g''.length g'' ((fun y => if y = i then cur else cell y) y) (rwg m fun j => sgz s.neg * s.Z y (n + j)) := fun y hy => by
            show XR _ _ _ _ (if y = i then cur else cell y) _
            by_cases e : y = i
            · subst e
              rw [if_pos rfl]
              rcases hcur with ⟨h1, h2⟩ | ⟨k, v, h1, h2, h3⟩
              · exact .inl ⟨by rw [h1]; rfl, h2⟩
              · exact .inr ⟨k, v, (List.getElem?_eq_some_iff.1 h3).1, by rw [rwg_len]; exact h2, h3⟩
            · rw [if_neg e]
              exact (hc y (by omega)).le hge
          have hc3 : ∀ y, i + 1 ≤ y → (fun y => if y = i then cur else cell y) y = .nil := fun y hy => by
            show (if y = i then cur else cell y) = .nil
            rw [if_neg (by omega)]
            exact hnil y (by omega)
          generalize (fun y => if y = i then cur else cell y) = cell' at *
          clear qz bz sg hset0 y0 y1 y2 hc hcur
          have hw := i64_nat hi6
          refine go3 ?_
          exact rec _ ⟨_, _, _, _, _, _, _, _, _, hc1, hc3, rfl⟩
      · rintro s' ⟨j13, j15, j74, j84, j85, j86, j87, cell, g', hc, hnil, rfl⟩
        have a1 := app_get w1
        have fx : ∀ y l, fzR (Go.AM.frz (h0.set 0 y ++ (G' ++ (some ⟨0, 1, rwg n cell⟩ :: (g' ++ l)))) 5) (some (some ⟨0, 1, rwg n cell⟩)) 0 0 n = _ := fun y l => fz_XR 2 (h0 := h0.set 0 y) (G := G') (g := g' ++ l) (n := n) (m := m) (cell := cell) (f := fun i j => sgz s.neg * s.Z i (n + j)) (fun i hi => (hc i hi).grow l) List.length_set rfl
        have hl2 : ∀ y l, (h0.set 0 y ++ (G' ++ l))[h0.length + G'.length]? = l[0]? := fun y l => by
          have := get_app (h0.set 0 y) (G' ++ l) G'.length
          rw [List.length_set] at this
          rw [this, get_app0]
        have s1 := fun l => sg l s.pv (by omega)
        have xl := rwg_len n cell
        subst hP
        clear b3 sg hc hnil H3
        generalize (tbg n m fun i j => sgz s.neg * s.Z i (n + j)) = X at *
        generalize sgz s.neg * s.pv = pd at *
        refine go3 ?_
        trivial
end Go.S

end
section
set_option linter.unusedVariables false
set_option linter.unusedSimpArgs false
set_option maxRecDepth 100000
namespace Go.S
open Go Go.AM Go.RowKit Go.K
theorem s_bSolve0 : CP (CL F) 19 [.lst [], .lst []] = some (.tup [.lst [], eZ 1, eI 0]) := by
  refine CP_X (F := F) (f := 19) rfl rfl ?_
  have k1 : CP (CL F) 26 [.lst [], eI 0] = some (.bool true) := s_shaped (t := []) (by simp) 0
  have b1 := s_zbegin0 [some ⟨0, 2, [zZ]⟩, none]
  change CL F _ _ _ = some (.ptr 2 0 0 0, [some ⟨0, 2, [zZ]⟩, none, some ⟨0, 4, [aB .nil 1 false]⟩]) at b1
  have b2 := s_zrun0 [some ⟨0, 2, [zZ]⟩, none] true
  change CL F _ [.ptr 2 0 0 0, .bool true] [some ⟨0, 2, [zZ]⟩, none, some ⟨0, 4, [aB .nil 1 false]⟩] = some (.bool true, [some ⟨0, 2, [zZ]⟩, none, some ⟨0, 4, [aB .nil 1 false]⟩]) at b2
  have b3 := s_signed (n := 0) (c := 0) (Z := fun _ _ => 0) (key := fun _ => 0) (vt := 0) (h0 := [some ⟨0, 2, [zZ]⟩, none]) (G := [some ⟨0, 4, [aB .nil 1 false]⟩, some ⟨0, 1, []⟩]) (tb := .nil) (pv := 1) (neg := false) rfl (a := 1) (by have := L_one; omega)
  rw [show sgz false * 1 = 1 from rfl] at b3
  change CL F _ [.ptr 2 0 0 0, eZ 1] [some ⟨0, 2, [zZ]⟩, none, some ⟨0, 4, [aB .nil 1 false]⟩, some ⟨0, 1, []⟩] = some (_, [some ⟨0, 2, [zZ]⟩, none, some ⟨0, 4, [aB .nil 1 false]⟩, some ⟨0, 1, []⟩, some ⟨0, 2, [eZ 1]⟩, some ⟨0, 2, [eZ 1]⟩]) at b3
  have r0 : List.replicate (Int.toNat 0) AV.nil = [] := rfl
  generalize (1 : Int) = o at b1 b2 b3
  refine go3 ?_
  refine X_round ?_
  refine go3 ?_
  refine X_round ?_
  refine go3 ?_
  trivial
def widz (t : List (List Int)) : Nat := (t.getD 0 default).length
set_option maxHeartbeats 2000000
theorem s_bSolve_bad {a b : List (List Int)} (ha : a.length ≤ 1000000) (hb : b.length ≤ 1000000) (h : ¬ (shp a a.length = true ∧ shp b (widz b) = true ∧ b.length = a.length)) : CP (CL F) 19 [eTZ a, eTZ b] = some (.tup [.lst [], .agg [.bool false, .lst []], eI 8]) := by
  refine CP_X (F := F) (f := 19) rfl rfl ?_
  have k1 := s_shaped ha a.length
  have k2 := s_shaped hb (widz b)
  have key : shp a a.length = false ∨ shp b (widz b) = false ∨ b.length ≠ a.length := by
    cases h1 : shp a a.length
    · exact .inl rfl
    · cases h2 : shp b (widz b)
      · exact .inr (.inl rfl)
      · exact .inr (.inr fun h3 => h ⟨h1, h2, h3⟩)
  clear h
  rcases Nat.eq_zero_or_pos b.length with e | e
  · obtain rfl := List.eq_nil_of_length_eq_zero e
    change CP (CL F) _ [eTZ [], eI 0] = _ at k2
    change CP (CL F) _ [eTZ a, _] = _ at k1
    have e0 : shp [] (widz []) = true := rfl
    rw [e0] at k2
    rcases key with h | h | h
    · rw [h] at k1
      clear h e
      refine go3 ?_
      trivial
    · rw [e0] at h; cases h
    · have c1 : ((0 : Int) ≠ (a.length : Int)) := by simp at h; omega
      have c2 : ¬ ((0 : Int) = (a.length : Int)) := by omega
      clear h e
      cases h1 : shp a a.length <;> (rw [h1] at k1; clear h1; refine go3 ?_; trivial)
  · have g0 := em_getN (f := eRZ) b 0 e
    have e1 : ((0 : Int) < (b.length : Int)) := by omega
    unfold widz at *
    generalize b.getD 0 default = r at *
    rcases key with h | h | h
    · rw [h] at k1
      clear h e
      refine go3 ?_
      trivial
    · rw [h] at k2
      clear h e
      cases h1 : shp a a.length <;> (rw [h1] at k1; clear h1; refine go3 ?_; trivial)
    · have c1 : ((b.length : Int) ≠ (a.length : Int)) := by omega
      have c2 : ¬ ((b.length : Int) = (a.length : Int)) := by omega
      clear h e
      cases h1 : shp a a.length <;> cases h2 : shp b r.length <;> (rw [h1] at k1; rw [h2] at k2; clear h1 h2; refine go3 ?_; trivial)
def crz (A B : Zt) (i j : Nat) : Zt := fun r c => if c = i then B r j else A r c
end Go.S

end
section
set_option linter.unusedVariables false
set_option linter.unusedSimpArgs false
set_option maxRecDepth 100000
namespace Go.S
open Go Go.AM Go.RowKit Go.K
def goodz (a b : List (List Int)) : Prop := (∀ r ∈ a, r.length = a.length) ∧ b.length = a.length ∧ ∀ r ∈ b, r.length = widz b
def Solz (a b : List (List Int)) (xv c1 c2 : AV) (ev : Int) : Prop :=
  (¬ goodz a b ∧ xv = .lst [] ∧ ev = 8) ∨ (a = [] ∧ b = [] ∧ xv = .lst [] ∧ .agg [c1, c2] = eZ 1 ∧ ev = 0) ∨
  ∃ n m A B, (0 < n ∧ n ≤ 6 ∧ m ≤ 6 ∧ a = tbg n n A ∧ b = tbg n m B ∧ (∀ i j, L (A i j) ≤ 2) ∧ ∀ i j, L (B i j) ≤ 2) ∧
    ((zdet n A = 0 ∧ xv = .lst [] ∧ ev = 7) ∨
     (zdet n A ≠ 0 ∧ xv = eTZ (tbg n m fun i j => zdet n (crz A B i j)) ∧ .agg [c1, c2] = eZ (zdet n A) ∧ ev = 0 ∧ ∀ i, i < n → ∀ j, j < m → zsm n (fun k => A i k * zdet n (crz A B k j)) = B i j * zdet n A))
theorem solz {a b : List (List Int)} (ha : a.length ≤ 6) (hb : b.length ≤ 6) (ha2 : ∀ r ∈ a, r.length ≤ 6 ∧ ∀ z ∈ r, L z ≤ 2) (hb2 : ∀ r ∈ b, r.length ≤ 6 ∧ ∀ z ∈ r, L z ≤ 2) :
    ∃ xv bb ll ev, CP (CL F) 19 [eTZ a, eTZ b] = some (.tup [xv, .agg [.bool bb, .lst ll], eI ev]) ∧ Solz a b xv (.bool bb) (.lst ll) ev := by
  by_cases hg : goodz a b
  · obtain ⟨g1, g2, g3⟩ := hg
    rcases Nat.eq_zero_or_pos a.length with e | e
    · have ea := List.eq_nil_of_length_eq_zero e
      have eb := List.eq_nil_of_length_eq_zero (show b.length = 0 by omega)
      subst ea
      subst eb
      exact ⟨_, _, _, _, s_bSolve0, .inr (.inl ⟨rfl, rfl, rfl, rfl, rfl⟩)⟩
    · have hA := eng_size (t := a) fun r hr => (ha2 r hr).2
      have hB := eng_size (t := b) fun r hr => (hb2 r hr).2
      have ea := (tbg_of g1).symm
      have eb := (tbg_of g3).symm
      have hm : widz b ≤ 6 := by
        unfold widz
        exact (hb2 _ (getD_mem (by omega))).1
      rw [g2] at eb
      generalize eng a = A at *
      generalize eng b = B at *
      generalize widz b = m at *
      generalize a.length = n at *
      have k := s_bSolve (n := n) (m := m) (K := 2) (A := A) (B := B) e (by omega) (by omega) (fun i _ j _ => hA i j) (fun i _ j _ => hB i j) (two_pow_6 ha)
      rw [← ea, ← eb] at k
      have hc : zdet n (abz n A B) = zdet n A := zdet_congr fun i c hi hc => by unfold abz; rw [if_pos hc]
      unfold bsol at k
      cases hz : zrun n (abz n A B) n with
      | none =>
        rw [hz] at k
        have := zrun_none hz
        exact ⟨_, _, _, _, k, .inr (.inr ⟨n, m, A, B, ⟨e, ha, hm, ea, eb, hA, hB⟩, .inl ⟨by rw [← hc]; exact this, rfl, rfl⟩⟩)⟩
      | some s =>
        rw [hz] at k
        obtain ⟨d1, d2⟩ := zrun_det hz
        rw [hc] at d1 d2
        have cr : ∀ i, i < n → ∀ j, zdet n (crz A B i j) = sgz s.neg * s.Z i (n + j) := fun i hi j => by
          rw [← zrun_cramer hz hi (n + j)]
          refine zdet_congr fun r c hr hc => ?_
          unfold crz rpl abz
          by_cases h : c = i
          · rw [if_pos h, if_pos h, if_neg (by omega), show n + j - n = j by omega]
          · rw [if_neg h, if_neg h, if_pos hc]
        have ht : (tbg n m fun i j => sgz s.neg * s.Z i (n + j)) = tbg n m fun i j => zdet n (crz A B i j) := tbg_congr fun i hi j hj => (cr i hi j).symm
        simp only at k
        rw [ht, ← d1] at k
        refine ⟨_, _, _, _, k, .inr (.inr ⟨n, m, A, B, ⟨e, ha, hm, ea, eb, hA, hB⟩, .inr ⟨d2, rfl, rfl, rfl, fun i hi j hj => ?_⟩⟩)⟩
        have sv := zrun_solves hz hi (n + j)
        rw [← d1, show abz n A B i (n + j) = B i j from by unfold abz; rw [if_neg (by omega), show n + j - n = j by omega]] at sv
        rw [← sv]
        refine zsm_congr fun k hk => ?_
        rw [cr k hk, show abz n A B i k = A i k from by unfold abz; rw [if_pos hk]]
  · refine ⟨_, _, _, _, s_bSolve_bad (by omega) (by omega) (fun h => hg ?_), .inl ⟨hg, rfl, rfl⟩⟩
    obtain ⟨h1, h2, h3⟩ := h
    exact ⟨(shp_iff.1 h1).2.2, h3, (shp_iff.1 h2).2.2⟩
set_option maxHeartbeats 4000000
end Go.S

end
section
set_option linter.unusedVariables false
set_option linter.unusedSimpArgs false
set_option maxRecDepth 100000
namespace Go.S
open Go Go.AM Go.RowKit Go.K
def mmz (n : Nat) (A X : Zt) : Zt := fun i j => zsm n fun k => A i k * X k j
theorem s_times15 {n m Q : Nat} {A X : Zt} (h0n : 0 < n) (hn : n ≤ 100) (hm : m ≤ 100) (hA : ∀ i j, L (A i j) ≤ 2) (hX : ∀ i j, L (X i j) ≤ Q) (hQ : Q < 1000000) :
    CP (CL F) 22 [eTZ (tbg n n A), eTZ (tbg n m X)] = some (eTZ (tbg n m (mmz n A X))) := by
  refine CP_X (F := F) (f := 22) rfl rfl ?_
  have tl := tbg_len n n A
  have ul := tbg_len n m X
  have gA : ∀ i, i < n → (em eRZ (tbg n n A))[i]? = some (eRZ (rwg n (A i))) := fun i hi => by
    have := em_getN (f := eRZ) (tbg n n A) i (by rw [tbg_len]; exact hi)
    rwa [tbg_get hi] at this
  have gX : ∀ i, i < n → (em eRZ (tbg n m X))[i]? = some (eRZ (rwg m (X i))) := fun i hi => by
    have := em_getN (f := eRZ) (tbg n m X) i (by rw [tbg_len]; exact hi)
    rwa [tbg_get hi] at this
  have g0 := gX 0 h0n
  have l0 := rwg_len m (X 0)
  have ga : ∀ i k, k < n → (em eZ (rwg n (A i)))[k]? = some (eZ (A i k)) := fun i k hk => by
    have := em_getN (f := eZ) (rwg n (A i)) k (by rw [rwg_len]; exact hk)
    rwa [rwg_get hk] at this
  have gx : ∀ k j, j < m → (em eZ (rwg m (X k)))[j]? = some (eZ (X k j)) := fun k j hj => by
    have := em_getN (f := eZ) (rwg m (X k)) j (by rw [rwg_len]; exact hj)
    rwa [rwg_get hj] at this
  have la : ∀ i, (rwg n (A i)).length = n := fun i => rwg_len _ _
  have lx : ∀ i, (rwg m (X i)).length = m := fun i => rwg_len _ _
  have hlt0 : ((0 : Int) < (n : Int)) := by omega
  have mul : ∀ i k j, CP (CL F) 23 [eZ (A i k), eZ (X k j)] = some (eZ (A i k * X k j)) := fun i k j => s_whole_Mul (by have := hA i k; omega) (by have := hX k j; omega)
  have hp : ∀ i k j, L (A i k * X k j) ≤ 2 + Q := fun i k j => by have := L_mul (A i k) (X k j); have := hA i k; have := hX k j; omega
  have add : ∀ i j k, k < n → CP (CL F) 16 [eZ (zsm k fun k => A i k * X k j), eZ (A i k * X k j)] = some (eZ (zsm (k + 1) fun k => A i k * X k j)) := fun i j k hk => s_whole_Add (by
    have := zsm_size (f := fun k => A i k * X k j) (M := 2 + Q) k fun y _ => hp i y j
    omega) (by have := hp i k j; omega)
  have of0 : ∀ i j, CP (CL F) 20 [eI 0] = some (eZ (zsm 0 fun k => A i k * X k j)) := fun i j => s_whole_Of (a := 0) (by decide) (by decide)
  have hP : ∀ i j, zsm n (fun k => A i k * X k j) = mmz n A X i j := fun i j => rfl
  generalize mmz n A X = P at *
  generalize tbg n n A = TA at *
  generalize tbg n m X = TX at *
  clear hA hX hp
  refine go3 ?_
  refine X_up n (fun i s => ∃ j7 j8 j9 j10 j15 j29 j36 v g, s = ⟨[(0, eTZ TA), (1, eTZ TX), (4, .nil), (5, .ref 0 v 1 0 i), (6, eI i), (7, j7), (8, j8), (9, j9), (10, j10), (15, j15), (29, j29), (36, j36)], some ⟨v, 1, em eRZ (tbg i m P)⟩ :: g⟩) ?_ ?_ 0 (Nat.zero_le _) _ ⟨_, _, _, _, _, _, _, _, [], rfl⟩
  · rintro i s hi ⟨j7, j8, j9, j10, j15, j29, j36, v, g, rfl⟩ rec
    have hlt := lt_c hi
    have sn := tbg_snoc i m P
    have bl := tbg_len i m P
    have bt : List.take i (tbg i m P) = tbg i m P := take_len_g _ bl.symm
    have hi6 : i < 9223372036854775807 := by omega
    have hlim : i < 5864062014805 := by omega
    have a1 := gA i hi
    have a2 := ga i
    have a3 := la i
    have a4 := mul i
    have a5 := add i
    have a6 := of0 i
    have a7 := hP i
    clear gA ga la mul add of0 hP
    refine go3 ?_
    refine X_up m (fun j s => ∃ j9 j10 j29 j36 v2 g2, s = ⟨[(0, eTZ TA), (1, eTZ TX), (4, .nil), (5, .ref 0 v 1 0 i), (6, eI i), (7, .ref (g.length + 1) v2 2 0 j), (8, eI j), (9, j9), (10, j10), (15, .bool true), (29, j29), (36, j36)], some ⟨v, 1, em eRZ (tbg i m P)⟩ :: (g ++ (some ⟨v2, 2, em eZ (rwg j (P i))⟩ :: g2))⟩) ?_ ?_ 0 (Nat.zero_le _) _ ⟨_, _, _, _, _, [], rfl⟩
    · rintro j s hj ⟨j9, j10, j29, j36, v2, g2, rfl⟩ rec2
      have hlt2 := lt_c hj
      have sn2 := rwg_snoc j (P i)
      have bl2 := rwg_len j (P i)
      have bt2 : List.take j (rwg j (P i)) = rwg j (P i) := take_len_g _ bl2.symm
      have hj6 : j < 9223372036854775807 := by omega
      have hlim2 : j < 4398046511104 := by omega
      have b1 := fun k => gx k j hj
      have b2 := fun k => a4 k j
      have b3 := a5 j
      have b4 := a6 j
      have b5 := a7 j
      clear gx a4 a5 a6 a7 sn rec
      refine go3 ?_
      refine X_up n (fun k s => ∃ j36, s = ⟨[(0, eTZ TA), (1, eTZ TX), (4, .nil), (5, .ref 0 v 1 0 i), (6, eI i), (7, .ref (g.length + 1) v2 2 0 j), (8, eI j), (9, .ptr (g.length + (g2.length + 1) + 1) 0 0 0), (10, eI k), (15, .bool true), (29, .bool true), (36, j36)], some ⟨v, 1, em eRZ (tbg i m P)⟩ :: (g ++ (some ⟨v2, 2, em eZ (rwg j (P i))⟩ :: (g2 ++ [some ⟨0, 2, [eZ (zsm k fun k => A i k * X k j)]⟩])))⟩) ?_ ?_ 0 (Nat.zero_le _) _ ⟨_, rfl⟩
      · rintro k s hk ⟨j36, rfl⟩ rec3
        have hlt3 := lt_c hk
        have q1 := gX k hk
        have q2 := lx k
        have q3 := a2 k hk
        have q4 := b1 k
        have q5 := b2 k
        have q6 := b3 k hk
        have hw := i64_nat (n := k) (by omega)
        generalize (zsm k fun k => A i k * X k j) = z1 at *
        generalize (zsm (k + 1) fun k => A i k * X k j) = z2 at *
        clear gX lx a2 b1 b2 b3 b4 b5 rec2 sn2
        refine go3 ?_
        exact rec3 _ ⟨_, rfl⟩
      · rintro s ⟨j36, rfl⟩
        have hlt3 : ¬ ((n : Int) < (n : Int)) := nlt_c
        rw [b5]
        generalize P i j = z at *
        generalize rwg j (P i) = R2 at *
        generalize rwg (j + 1) (P i) = R2' at *
        have hw := i64_nat hj6
        clear gX lx a2 b1 b2 b3 b4 b5
        refine go3 ?_
        exact rec2 _ ⟨_, _, _, _, _, _, rfl⟩
    · rintro s ⟨j9, j10, j29, j36, v2, g2, rfl⟩
      have hlt2 : ¬ ((m : Int) < (m : Int)) := nlt_c
      have bl2 := rwg_len m (P i)
      have sb2 : sub (em eZ (rwg m (P i))) 0 m = em eZ (rwg m (P i)) := by
        have := sub_full (f := eZ) (rwg m (P i))
        rwa [rwg_len] at this
      have bt2 : List.take m (rwg m (P i)) = rwg m (P i) := take_len_g _ bl2.symm
      generalize rwg m (P i) = R2 at *
      generalize tbg i m P = T1 at *
      generalize tbg (i + 1) m P = T1' at *
      have hw := i64_nat hi6
      clear gX gx lx a2 a4 a5 a6 a7
      refine go3 ?_
      exact rec _ ⟨_, _, _, _, _, _, _, _, _, rfl⟩
  · rintro s ⟨j7, j8, j9, j10, j15, j29, j36, v, g, rfl⟩
    have hlt : ¬ ((n : Int) < (n : Int)) := nlt_c
    have bl := tbg_len n m P
    have bt : List.take n (tbg n m P) = tbg n m P := take_len_g _ bl.symm
    clear gA gX ga gx la lx mul add of0 hP
    generalize tbg n m P = T1 at *
    refine go3 ?_
    trivial
theorem s_times15_0 : CP (CL F) 22 [.lst [], .lst []] = some (.lst []) := by
  refine CP_X (F := F) (f := 22) rfl rfl ?_
  refine go3 ?_
  refine X_round ?_
  refine go3 ?_
  trivial
set_option maxHeartbeats 2000000
theorem law_BareissSolved {t : List (List XZ)} (ht : ∀ l ∈ t, ∀ x ∈ l, x.ok) {u' : List (List XZ)} (hu : ∀ l ∈ u', ∀ x ∈ l, x.ok) : CP (CL F) 6 [.lst (em eXZL t), .lst (em eXZL u')] = some (.bool true) := by
  refine CP_X (F := F) (f := 6) rfl rfl ?_
  have f1 := s_Few15 ht (most := 6) (by decide)
  replace f1 : CP (CL F) 7 [.lst (em eXZL t), eI 6] = _ := f1
  have fl := fewz_len 6 t
  have fr := fun r (h : r ∈ fewz 6 t) => fewz_row h
  generalize fewz 6 t = a at *
  have f2 := s_Few15 hu (most := 6) (by decide)
  replace f2 : CP (CL F) 7 [.lst (em eXZL u'), eI 6] = _ := f2
  have gl := fewz_len 6 u'
  have gr := fun r (h : r ∈ fewz 6 u') => fewz_row h
  generalize fewz 6 u' = b at *
  obtain ⟨xv, d1, d2, ev, k3, cl⟩ := solz (a := a) (b := b) (by omega) (by omega) fr gr
  have w := s_works15
  clear ht hu
  rcases cl with ⟨hg, rfl, rfl⟩ | ⟨rfl, rfl, rfl, he, rfl⟩ | ⟨n, m, A, B, ⟨h0n, hn, hm, ea, eb, hA, hB⟩, cl⟩
  · clear hg fr gr
    refine go3 ?_
    trivial
  · have t0 := s_times15_0
    change CP (CL F) _ [eTZ [], .lst []] = _ at t0
    clear fr gr he
    refine go3 ?_
    refine X_round ?_
    refine go3 ?_
    trivial
  · rcases cl with ⟨hz, rfl, rfl⟩ | ⟨hz, rfl, he, rfl, hs⟩
    · clear fr gr ea eb hA hB hz h0n
      refine go3 ?_
      trivial
    · have hX : ∀ i j, L (zdet n (crz A B i j)) ≤ zB 2 n := fun i j => zdet_size (K := 2) n fun r _ c _ => by
        unfold crz
        split
        · exact hB r j
        · exact hA r c
      have hzb := zB_4 hn
      have t1 := s_times15 (A := A) (X := fun i j => zdet n (crz A B i j)) (m := m) h0n (by omega) (by omega) hA hX hzb.2
      rw [show tbg n m (mmz n A fun i j => zdet n (crz A B i j)) = tbg n m fun i j => B i j * zdet n A from tbg_congr fun i hi j hj => hs i hi j hj] at t1
      rw [← ea] at t1
      have hd := zdet_size (K := 2) n (A := A) fun i _ j _ => hA i j
      have bl : b.length = n := by rw [eb, tbg_len]
      have mul : ∀ i j, CP (CL F) 23 [eZ (B i j), eZ (zdet n A)] = some (eZ (B i j * zdet n A)) := fun i j => s_whole_Mul (by have := hB i j; omega) (by omega)
      have cmp : ∀ i j, CP (CL F) 17 [eZ (B i j * zdet n A), eZ (B i j * zdet n A)] = some (eI 0) := fun i j => by
        have h1 := L_mul (B i j) (zdet n A)
        have := hB i j
        have h2 := s_whole_Cmp (x := B i j * zdet n A) (y := B i j * zdet n A) (by omega) (by omega)
        rwa [show ∀ z : Int, cmpI z z = 0 from fun z => by unfold cmpI; split <;> (try split) <;> omega] at h2
      have gB : ∀ i, i < n → (em eRZ b)[i]? = some (eRZ (rwg m (B i))) := fun i hi => by
        have := em_getN (f := eRZ) (tbg n m B) i (by rw [tbg_len]; exact hi)
        rwa [tbg_get hi, ← eb] at this
      have gP : ∀ i, i < n → (em eRZ (tbg n m fun i j => B i j * zdet n A))[i]? = some (eRZ (rwg m fun j => B i j * zdet n A)) := fun i hi => by
        have := em_getN (f := eRZ) (tbg n m fun i j => B i j * zdet n A) i (by rw [tbg_len]; exact hi)
        rwa [tbg_get hi] at this
      have gb : ∀ i j, j < m → (em eZ (rwg m (B i)))[j]? = some (eZ (B i j)) := fun i j hj => by
        have := em_getN (f := eZ) (rwg m (B i)) j (by rw [rwg_len]; exact hj)
        rwa [rwg_get hj] at this
      have gp : ∀ i j, j < m → (em eZ (rwg m fun j => B i j * zdet n A))[j]? = some (eZ (B i j * zdet n A)) := fun i j hj => by
        have := em_getN (f := eZ) (rwg m fun j => B i j * zdet n A) j (by rw [rwg_len]; exact hj)
        rwa [rwg_get hj] at this
      have lb : ∀ i, (rwg m (B i)).length = m := fun i => rwg_len _ _
      have lp := tbg_len n m fun i j => B i j * zdet n A
      have lp2 : ∀ i, (rwg m fun j => B i j * zdet n A).length = m := fun i => rwg_len _ _
      rw [he] at k3
      generalize (tbg n m fun i j => B i j * zdet n A) = TP at *
      generalize (tbg n m fun i j => zdet n (crz A B i j)) = TX at *
      generalize zdet n A = d at *
      clear fr gr ea eb hA hB hz h0n hX hs hd hzb he
      refine go3 ?_
      refine X_up n (fun i s => ∃ j14 j45 j54 j74, s = ⟨[(0, .lst (em eXZL t)), (1, .lst (em eXZL u')), (4, .bool false), (5, eTZ a), (7, eTZ b), (9, eTZ TX), (10, .ptr 0 0 0 0), (11, eI 0), (12, eTZ TP), (13, eI i), (14, j14), (16, .bool false), (35, .bool false), (45, j45), (54, j54), (74, j74)], [some ⟨0, 2, [eZ d]⟩]⟩) ?_ ?_ 0 (Nat.zero_le _) _ ⟨_, _, _, _, rfl⟩
      · rintro i s hi ⟨j14, j45, j54, j74, rfl⟩ rec
        have hlt := lt_c hi
        have g1 := gB i hi
        have g2 := gP i hi
        have g3 := gb i
        have g4 := gp i
        have g5 := lb i
        have g6 := lp2 i
        have m1 := mul i
        have m2 := cmp i
        generalize (rwg m fun j => B i j * d) = RP at *
        clear gB gP gb gp lb lp2 mul cmp
        refine go3 ?_
        refine X_up m (fun j s => ∃ j54 j74, s = ⟨[(0, .lst (em eXZL t)), (1, .lst (em eXZL u')), (4, .bool false), (5, eTZ a), (7, eTZ b), (9, eTZ TX), (10, .ptr 0 0 0 0), (11, eI 0), (12, eTZ TP), (13, eI i), (14, eI j), (16, .bool false), (35, .bool false), (45, .bool true), (54, j54), (74, j74)], [some ⟨0, 2, [eZ d]⟩]⟩) ?_ ?_ 0 (Nat.zero_le _) _ ⟨_, _, rfl⟩
        · rintro j s hj ⟨j54, j74, rfl⟩ rec2
          have hlt2 := lt_c hj
          have q1 := g3 j hj
          have q2 := g4 j hj
          have q3 := m1 j
          have q4 := m2 j
          have z00 : ¬ ((0 : Int) ≠ 0) := by decide
          have hw := i64_nat (n := j) (by omega)
          generalize B i j * d = z1 at *
          clear g3 g4 m1 m2 rec
          refine go3 ?_
          exact rec2 _ ⟨_, _, rfl⟩
        · rintro s ⟨j54, j74, rfl⟩
          have hlt2 : ¬ ((m : Int) < (m : Int)) := nlt_c
          have hw := i64_nat (n := i) (by omega)
          clear g3 g4 m1 m2
          refine go3 ?_
          exact rec _ ⟨_, _, _, _, rfl⟩
      · rintro s ⟨j14, j45, j54, j74, rfl⟩
        have hlt : ¬ ((n : Int) < (n : Int)) := nlt_c
        clear gB gP gb gp lb lp2 mul cmp
        refine go3 ?_
        trivial
end Go.S

end
