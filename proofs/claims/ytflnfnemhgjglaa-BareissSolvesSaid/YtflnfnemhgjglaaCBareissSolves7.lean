/- A part of the proof of the law BareissSolves: an abstract machine for the functions' code with its soundness, words, lemmas (assembled by a program). -/
import Derived.Test.YtflnfnemhgjglaaCBareissSolves6
set_option linter.unusedVariables false
set_option linter.unusedSimpArgs false
set_option linter.unusedSectionVars false
section
set_option linter.unusedVariables false
set_option linter.unusedSimpArgs false
set_option maxRecDepth 100000
namespace Go.S
open Go Go.AM Go.RowKit Go.K
theorem fewz_len (most : Nat) (t : List (List XZ)) : (fewz most t).length ≤ most := by unfold fewz; simp; omega
theorem fewz_row {most : Nat} {t : List (List XZ)} {r : List Int} (h : r ∈ fewz most t) : r.length ≤ most ∧ ∀ z ∈ r, L z ≤ 2 := by
  unfold fewz at h
  obtain ⟨l, _, rfl⟩ := List.mem_map.1 h
  refine ⟨by simp; omega, fun z hz => ?_⟩
  obtain ⟨x, _, rfl⟩ := List.mem_map.1 hz
  exact clz_L x
theorem getD_out {α : Type} {l : List α} {i : Nat} {d : α} (h : l.length ≤ i) : l.getD i d = d := by rw [List.getD_eq_getElem?_getD, List.getElem?_eq_none h]; rfl
theorem eng_size {t : List (List Int)} {K : Nat} (h : ∀ r ∈ t, ∀ z ∈ r, L z ≤ K) (i j : Nat) : L (eng t i j) ≤ K := by
  unfold eng
  by_cases hi : i < t.length
  · have hm := getD_mem (l := t) hi
    by_cases hj : j < (t.getD i default).length
    · exact h _ hm _ (getD_mem hj)
    · rw [show (t.getD i default).getD j default = 0 from getD_out (by omega), L_zero]; omega
  · have e : t.getD i default = [] := getD_out (by omega)
    rw [e]
    show L 0 ≤ K
    rw [L_zero]; omega
theorem zB_4 {n : Nat} (h : n ≤ 6) : 2 + zB 2 n < 10000000 ∧ zB 2 n < 1000000 := by
  match n, h with
  | 0, _ => decide
  | 1, _ => decide
  | 2, _ => decide
  | 3, _ => decide
  | 4, _ => decide
  | 5, _ => decide
  | 6, _ => decide
theorem two_pow_6 {n : Nat} (h : n ≤ 6) : 2 ^ n * (2 + 2) < 100000000 := by
  have : 2 ^ n ≤ 2 ^ 6 := Nat.pow_le_pow_right (by decide) h
  omega
end Go.S

end
section
set_option linter.unusedVariables false
set_option linter.unusedSimpArgs false
set_option maxRecDepth 100000
namespace Go.S
open Go Go.AM Go.RowKit Go.K
def abz (n : Nat) (A B : Zt) : Zt := fun i j => if j < n then A i j else B i (j - n)
def XR (b c0 K0 : Nat) (g : Heap) (c : AV) (r : List Int) : Prop := (r = [] ∧ c = .nil) ∨ ∃ k v, k < K0 ∧ c = .ref (b + (c0 + (k + 1))) v 2 0 r.length ∧ g[k]? = some (some ⟨v, 2, em eZ r⟩)
theorem XR.grow {b c0 K0 : Nat} {g : Heap} {c : AV} {r : List Int} (h : XR b c0 K0 g c r) (l : Heap) : XR b c0 K0 (g ++ l) c r := by
  rcases h with h | ⟨k, v, h1, h2, h3⟩
  · exact .inl h
  · exact .inr ⟨k, v, h1, h2, app_get h3 l⟩
theorem XR.le {b c0 K0 K1 : Nat} {g : Heap} {c : AV} {r : List Int} (h : XR b c0 K0 g c r) (hk : K0 ≤ K1) : XR b c0 K1 g c r := by
  rcases h with h | ⟨k, v, h1, h2, h3⟩
  · exact .inl h
  · exact .inr ⟨k, v, by omega, h2, h3⟩
theorem XR.set {b c0 K0 : Nat} {g : Heap} {c : AV} {r : List Int} (h : XR b c0 K0 g c r) {j : Nat} (hj : K0 ≤ j) (x : Option Blk) : XR b c0 K0 (g.set j x) c r := by
  rcases h with h | ⟨k, v, h1, h2, h3⟩
  · exact .inl h
  · exact .inr ⟨k, v, h1, h2, by rw [List.getElem?_set_ne (by omega)]; exact h3⟩
theorem mapM_rwg {F : AV → Option AV} {n : Nat} {c G : Nat → AV} (h : ∀ i, i < n → F (c i) = some (G i)) : (rwg n c).mapM F = some (rwg n G) := by
  induction n with
  | zero => rfl
  | succ n ih =>
    rw [← rwg_snoc, ← rwg_snoc, List.mapM_append, ih fun i hi => h i (by omega), List.mapM_cons, h n (by omega)]
    rfl
theorem em_tbg (n m : Nat) (f : Zt) : em eRZ (tbg n m f) = rwg n fun i => eRZ (rwg m (f i)) := by simp [em, tbg, rwg]
theorem XR.frz {h0 G g : Heap} {b c0 K0 : Nat} {c : AV} {r : List Int} {x : Option Blk} (h : XR b c0 K0 g c r) (hb : h0.length = b) (hc : G.length = c0) (n : Nat) : Go.AM.frz (h0 ++ (G ++ (x :: g))) (n + 3) c = some (eRZ r) := by
  rcases h with ⟨rfl, rfl⟩ | ⟨k, v, h1, rfl, h3⟩
  · rfl
  · have hbk : blk (h0 ++ (G ++ (x :: g))) (b + (c0 + (k + 1))) v = some ⟨v, 2, em eZ r⟩ := by
      unfold blk
      rw [← hb, ← hc, get_app, get_app, List.getElem?_cons_succ, h3]
      exact if_pos rfl
    show (blk _ _ v).bind (fun b => ((sub b.xs 0 r.length).mapM (Go.AM.frz _ (n + 2))).map AV.lst) = _
    rw [hbk]
    show ((sub (em eZ r) 0 r.length).mapM (Go.AM.frz _ (n + 2))).map AV.lst = _
    rw [sub_full, mapM_some (G := fun x => x) _ fun x hx => by
      obtain ⟨z, _, rfl⟩ := List.mem_map.1 hx
      exact (frz_plain1 (E_eZ.pl z)).1]
    simp
theorem fz_XR {h0 G g : Heap} {b c0 K0 n m : Nat} (k : Nat) {cell : Nat → AV} {f : Zt} (h : ∀ i, i < n → XR b c0 K0 g (cell i) (rwg m (f i))) (hb : h0.length = b) (hc : G.length = c0) :
    fzR (Go.AM.frz (h0 ++ (G ++ (some ⟨0, 1, rwg n cell⟩ :: g))) (k + 3)) (some (some ⟨0, 1, rwg n cell⟩)) 0 0 n = some (eTZ (tbg n m f)) := by
  have e : sub (rwg n cell) 0 n = rwg n cell := by
    unfold sub
    rw [List.drop_zero]
    exact List.take_of_length_le (by rw [rwg_len]; omega)
  show (if 0 = 0 then ((sub (rwg n cell) 0 n).mapM (Go.AM.frz _ (k + 3))).map AV.lst else none) = _
  rw [if_pos rfl, e, mapM_rwg (G := fun i => eRZ (rwg m (f i))) fun i hi => (h i hi).frz hb hc k, ← em_tbg]
  rfl
end Go.S

end
section
set_option linter.unusedVariables false
set_option linter.unusedSimpArgs false
set_option maxRecDepth 100000
namespace Go.S
open Go Go.AM Go.RowKit Go.K
def bsol (n m : Nat) (A B : Zt) : AV := match zrun n (abz n A B) n with
  | none => .tup [.lst [], .agg [.bool false, .lst []], eI 7]
  | some s => .tup [eTZ (tbg n m fun i j => sgz s.neg * s.Z i (n + j)), eZ (sgz s.neg * s.pv), eI 0]
set_option maxHeartbeats 1000000
theorem s_bSolve {n m K : Nat} {A B : Zt} (h0n : 0 < n) (hn : n ≤ 100) (hm : m ≤ 100) (hA : ∀ i, i < n → ∀ j, j < n → L (A i j) ≤ K) (hB : ∀ i, i < n → ∀ j, j < m → L (B i j) ≤ K) (hK : 2 ^ n * (K + 2) < 100000000) :
    CP (CL F) 19 [eTZ (tbg n n A), eTZ (tbg n m B)] = some (bsol n m A B) := by
  refine CP_X (F := F) (f := 19) rfl rfl ?_
  have k1 := s_shaped (t := tbg n n A) (by rw [tbg_len]; omega) n
  rw [shp_iff.2 ⟨by rw [tbg_len]; exact hn, hn, tbg_row⟩] at k1
  have k2 := s_shaped (t := tbg n m B) (by rw [tbg_len]; omega) m
  rw [shp_iff.2 ⟨by rw [tbg_len]; exact hn, hm, tbg_row⟩] at k2
  have tl := tbg_len n n A
  have ul := tbg_len n m B
  have gA : ∀ i, i < n → (em eRZ (tbg n n A))[i]? = some (eRZ (rwg n (A i))) := fun i hi => by
    have := em_getN (f := eRZ) (tbg n n A) i (by rw [tbg_len]; exact hi)
    rwa [tbg_get hi] at this
  have gB : ∀ i, i < n → (em eRZ (tbg n m B))[i]? = some (eRZ (rwg m (B i))) := fun i hi => by
    have := em_getN (f := eRZ) (tbg n m B) i (by rw [tbg_len]; exact hi)
    rwa [tbg_get hi] at this
  have g0 := gB 0 h0n
  have l0 := rwg_len m (B 0)
  have cc : ∀ i, CP (CL F) 39 [.lst (em eRZ [rwg n (A i), rwg m (B i)])] = some (eRZ (rwg (n + m) (abz n A B i))) := fun i => by
    have := z_Concat (a := rwg n (A i)) (b := rwg m (B i)) (by rw [rwg_len]; omega) (by rw [rwg_len]; omega)
    rwa [rwg_app] at this
  have hlt0 : ((0 : Int) < (n : Int)) := by omega
  have lim : (n : Int) ≤ 11728124029610 := by omega
  have lim2 : n ≤ 11728124029610 := by omega
  have hAB : ∀ i, i < n → ∀ j, j < n + m → L (abz n A B i j) ≤ K := fun i hi j hj => by
    unfold abz
    split
    · next h => exact hA i hi j h
    · exact hB i hi _ (by omega)
  have sn : ∀ i, tbg i (n + m) (abz n A B) ++ [rwg (n + m) (abz n A B i)] = tbg (i + 1) (n + m) (abz n A B) := fun i => tbg_snoc i _ _
  generalize tbg n n A = TA at *
  generalize tbg n m B = TB at *
  clear hA hB
  unfold bsol
  generalize abz n A B = C at *
  generalize hP : (match zrun n C n with
  | none => AV.tup [.lst [], .agg [.bool false, .lst []], eI 7]
  | some s => .tup [eTZ (tbg n m fun i j => sgz s.neg * s.Z i (n + j)), eZ (sgz s.neg * s.pv), eI 0]) = P
  have c0 : ∀ h : Heap, True := fun _ => trivial
  refine go3 ?_
  refine X_up n (fun i s => ∃ j10 j47 g, s = ⟨[(0, eTZ TA), (1, eTZ TB), (4, .nil), (5, .ptr 0 0 0 0), (6, eI 0), (7, eI n), (8, eI m), (9, .ref 1 0 1 0 n), (10, j10), (11, .undef), (12, .undef), (13, .undef), (15, .undef), (20, .bool true), (40, .bool false), (45, eI n), (46, eI i), (47, j47), (67, .undef), (72, .undef), (73, .undef), (74, .undef), (84, .undef), (85, .undef), (86, .undef), (87, .undef)], some ⟨0, 2, [zZ]⟩ :: some ⟨0, 1, em eRZ (tbg i (n + m) C) ++ List.replicate (n - i) .nil⟩ :: g⟩) ?_ ?_ 0 (Nat.zero_le _) _ ⟨_, _, _, rfl⟩
  · rintro i s hi ⟨j10, j47, g, rfl⟩ rec
    have hlt := lt_c hi
    have g1 := gA i hi
    have g2 := gB i hi
    have g3 := cc i
    have s1 := sn i
    obtain ⟨d, hd⟩ : ∃ d, n - i = d + 1 := ⟨n - i - 1, by omega⟩
    have hd2 : n - (i + 1) = d := by omega
    rw [hd]
    rw [hd2] at rec
    have fl := tbg_len i (n + m) C
    have f1 := fill_get (f := eRZ) (tbg i (n + m) C) d .nil
    have f2 := fill_set (f := eRZ) (tbg i (n + m) C) d .nil (rwg (n + m) (C i))
    rw [fl] at f1 f2
    rw [s1] at f2
    have fp : ∀ (a b : List Int) (h : Heap), fzR (Go.AM.frz h 6) (some (some ⟨0, 1, [eRZ a, eRZ b]⟩)) 0 0 2 = some (.lst (em eRZ [a, b])) := fun a b h => em_fz6 (h := h) (v := 0) (off := 0) (len := 2) E_eRZ [a, b]
    have up : ∀ (a b : List Int) (h : Heap) (i : Nat), usR (used h 6) (some (some ⟨0, 1, [eRZ a, eRZ b]⟩)) i 0 0 2 = [i] := fun a b h i => em_us6 (h := h) (id := i) (v := 0) (off := 0) (len := 2) E_eRZ [a, b]
    have hi6 : i < 9223372036854775807 := by omega
    generalize tbg i (n + m) C = T at *
    generalize tbg (i + 1) (n + m) C = T' at *
    generalize rwg (n + m) (C i) = rc at *
    generalize rwg n (A i) = ra at *
    generalize rwg m (B i) = rb at *
    have hw := i64_nat hi6
    clear gA gB cc sn s1 hd hd2 hAB fl
    refine go3 ?_
    exact rec _ ⟨_, _, _, rfl⟩
  · clear gA gB cc sn k1 k2 c0 g0 l0
    rintro s ⟨j10, j47, g, rfl⟩
    have hlt : ¬ ((n : Int) < (n : Int)) := nlt_c
    rw [Nat.sub_self, show List.replicate 0 AV.nil = [] from rfl, List.append_nil]
    have cl := tbg_len n (n + m) C
    have ct : List.take n (tbg n (n + m) C) = tbg n (n + m) C := take_len_g _ cl.symm
    obtain ⟨h0, hh⟩ : ∃ h0 : Heap, h0 = some ⟨0, 2, [zZ]⟩ :: none :: g := ⟨_, rfl⟩
    obtain ⟨x, p1, G, key, vt, rfl, H⟩ := s_zbegin (Z := C) h0n (by omega) (c := n + m) (by omega) (by omega) h0
    obtain ⟨x, p2, G', H'⟩ := s_zrun H (by omega) (by omega) hAB hK true
    have r0 : h0[0]? = some (some ⟨0, 2, [zZ]⟩) := by rw [hh]; rfl
    have r1 := app_get r0
    have rs := app_set r0
    have hset : ∀ y, (h0.set 0 y)[0]? = some y := fun y => by rw [hh]; rfl
    have hset2 : ∀ y l, (h0.set 0 y ++ l)[0]? = some y := fun y => app_get (hset y)
    have hsize := fun s => zrun_size (s := s) (show n ≤ n + m by omega) hAB (Nat.le_refl n)
    have p1' : CL F 40 [eTZ (tbg n (n + m) C)] (some ⟨0, 2, [zZ]⟩ :: none :: g) = some (.ptr h0.length 0 0 0, h0 ++ G) := by rw [← hh]; exact p1
    clear p1 hh H hAB
    rcases H' with ⟨h1, rfl⟩ | ⟨s, h1, Z, key', vt', rfl, H2, hall⟩
    · rw [h1] at hP
      simp only at hP
      subst hP
      clear hsize h1
      generalize tbg n (n + m) C = T at *
      refine go3 ?_
      trivial
    · obtain ⟨b1, b2⟩ := hsize s h1
      have b3 : ∀ i, i < n → ∀ j, j < n + m → L (s.Z i j) < 100000000 := fun i hi j hj => by have := b1 i hi j hj; omega
      rw [h1] at hP
      simp only at hP
      clear hsize b1
      have hZ := hall rfl
      have H3 := H2.eqs (Z' := s.Z) fun i hi => (hZ i hi).symm
      clear H2 hall hZ h1
      have w1 := H3.work
      have sg : ∀ (l : Heap) (a : Int), L a < 100000000 → CL F 42 [.ptr h0.length 0 0 0, eZ a] (h0 ++ (G' ++ l)) = some (eZ (sgz s.neg * a), h0 ++ (G' ++ (l ++ [some ⟨0, 2, [eZ a]⟩, some ⟨0, 2, [eZ (sgz s.neg * a)]⟩]))) := fun l a ha => by
        have := s_signed (n := n) (c := n + m) (Z := s.Z) (key := key') (vt := vt') (h0 := h0) (app_get w1 l) ha
        rw [List.append_assoc] at this
        exact this
      generalize tbg n (n + m) C = T at *
      refine go3 ?_
      refine X_up n (fun i s' => ∃ j13 j15 j74 j84 j85 j86 j87 cell g', (∀ y, y < i → XR h0.length G'.length g'.length g' (cell y) (rwg m fun j => sgz s.neg * s.Z y (n + j))) ∧ (∀ y, i ≤ y → cell y = .nil) ∧ s' = ⟨[(0, eTZ TA), (1, eTZ TB), (4, .nil), (5, .ptr 0 0 0 0), (6, eI 0), (7, eI n), (8, eI m), (9, .lst (em (eL eZ) T)), (10, j10), (11, .ptr h0.length 0 0 0), (12, .ref (h0.length + G'.length) 0 1 0 n), (13, j13), (15, j15), (20, .bool true), (40, .bool false), (45, eI n), (46, eI n), (47, .bool false), (67, .bool false), (72, eI n), (73, eI i), (74, j74), (84, j84), (85, j85), (86, j86), (87, j87)], h0 ++ (G' ++ (some ⟨0, 1, rwg n cell⟩ :: g'))⟩) ?_ ?_ 0 (Nat.zero_le _) _ ⟨_, _, _, _, _, _, _, fun _ => .nil, [], fun y hy => by omega, fun _ _ => rfl, by rw [show rwg n (fun _ => AV.nil) = List.replicate n AV.nil from by simp [rwg, List.map_const']]; rfl⟩
      · rintro i s' hi ⟨j13, j15, j74, j84, j85, j86, j87, cell, g', hc, hnil, rfl⟩ rec
        have hlt := lt_c hi
        have w2 := H3.tab
        have ri := H3.row i hi
        have t1 := rwg_getE (f := fun i => AV.ref (h0.length + key' i) 0 2 0 (n + m)) hi
        have a1 := app_get w1
        have a2 := app_get w2
        have ai := app_get ri
        have c1 : (n : Int) ≤ ((n + m : Nat) : Int) := by omega
        have e1 : n + m - n = m := by omega
        have hi6 : i < 9223372036854775807 := by omega
        have y1 : ∀ x, ((rwg n cell).set i x)[i]? = some x := fun x => List.getElem?_set_self (by rw [rwg_len]; omega)
        have y2 : ∀ x y, ((rwg n cell).set i x).set i y = (rwg n cell).set i y := fun x y => List.set_set ..
        have qz : ∀ j, j < m → (em eZ (rwg (n + m) (s.Z i)))[n + j]? = some (eZ (s.Z i (n + j))) := fun j hj => by
          have := em_getN (f := eZ) (rwg (n + m) (s.Z i)) (n + j) (by rw [rwg_len]; omega)
          rwa [rwg_get (by omega)] at this
        have bz := b3 i hi
        have hset0 : (rwg n cell).set i .nil = rwg n cell := by
          rw [rwg_set hi]
          refine rwg_congr fun y hy => ?_
          split
          · next e => rw [e]; exact (hnil i (Nat.le_refl i)).symm
          · rfl
        have y0 : (rwg n cell)[i]? = some .nil := by rw [rwg_getE hi, hnil i (Nat.le_refl i)]
        clear hP b3 H3
        refine go3 ?_
        refine X_up m (fun j s' => ∃ j15 j87 cur g'', (∀ y, y < i → XR h0.length G'.length g'.length g'' (cell y) (rwg m fun j => sgz s.neg * s.Z y (n + j))) ∧ g'.length ≤ g''.length ∧ ((j = 0 ∧ cur = .nil) ∨ ∃ k v, g'.length ≤ k ∧ cur = .ref (h0.length + (G'.length + (k + 1))) v 2 0 j ∧ g''[k]? = some (some ⟨v, 2, em eZ (rwg j fun j => sgz s.neg * s.Z i (n + j))⟩)) ∧ s' = ⟨[(0, eTZ TA), (1, eTZ TB), (4, .nil), (5, .ptr 0 0 0 0), (6, eI 0), (7, eI n), (8, eI m), (9, .lst (em (eL eZ) T)), (10, j10), (11, .ptr h0.length 0 0 0), (12, .ref (h0.length + G'.length) 0 1 0 n), (13, eI i), (15, j15), (20, .bool true), (40, .bool false), (45, eI n), (46, eI n), (47, .bool false), (67, .bool false), (72, eI n), (73, eI i), (74, .bool true), (84, .ref (h0.length + key' i) 0 2 n m), (85, eI m), (86, eI j), (87, j87)], h0 ++ (G' ++ (some ⟨0, 1, (rwg n cell).set i cur⟩ :: g''))⟩) ?_ ?_ 0 (Nat.zero_le _) _ ⟨_, _, .nil, g', hc, Nat.le_refl _, .inl ⟨rfl, rfl⟩, by rw [hset0]; rfl⟩
        · clear hc rec
          rintro j s' hj ⟨j15, j87, cur, g'', hc, hge, hcur, rfl⟩ rec2
          have hlt2 := lt_c hj
          have q1 := qz j hj
          have q2 := bz (n + j) (by omega)
          have s1 : ∀ l, CL F 42 [.ptr h0.length 0 0 0, eZ (s.Z i (n + j))] (h0 ++ (G' ++ l)) = some (eZ (sgz s.neg * s.Z i (n + j)), h0 ++ (G' ++ (l ++ [some ⟨0, 2, [eZ (s.Z i (n + j))]⟩, some ⟨0, 2, [eZ (sgz s.neg * s.Z i (n + j))]⟩]))) := fun l => sg l _ q2
          have sn := rwg_snoc j fun j => sgz s.neg * s.Z i (n + j)
          have jl := rwg_len j fun j => sgz s.neg * s.Z i (n + j)
          have jt : List.take j (rwg j fun j => sgz s.neg * s.Z i (n + j)) = rwg j fun j => sgz s.neg * s.Z i (n + j) := take_len_g _ jl.symm
          have hj6 : j < 9223372036854775807 := by omega
          have hlim : j < 4398046511104 := by omega
          have c2 : ((j : Int) < (m : Int)) := by omega
          rcases hcur with ⟨hj0, rfl⟩ | ⟨k, v, hk, rfl, hgk⟩
          · have s0 : [eZ (sgz s.neg * s.Z i (n + j))] = em eZ (rwg (j + 1) fun j => sgz s.neg * s.Z i (n + j)) := by rw [hj0]; rfl
            have hc2 := fun l y hy => (hc y hy).grow l
            generalize hr : (rwg (j + 1) fun j => sgz s.neg * s.Z i (n + j)) = R at *
            generalize sgz s.neg * s.Z i (n + j) = z1 at *
            generalize s.Z i (n + j) = z0 at *
            replace hj0 := eq_true hj0
            replace s0 := eq_true s0
            clear qz bz sg q2 sn jl jt hc
            have hw := i64_nat hj6
            refine go3 ?_
            obtain rfl := of_eq_true hj0
            exact rec2 _ ⟨_, _, _, _, fun y hy => hc2 _ y hy, by simp; omega, .inr ⟨g''.length + 4, 0, by omega, rfl, by rw [get_app, ← of_eq_true s0]; rfl⟩, rfl⟩
          · have ak := app_get hgk
            have asx := app_set hgk
            have hc2 := fun l x y hy => ((hc y hy).set hk x).grow l
            have kl := (List.getElem?_eq_some_iff.1 hgk).1
            generalize hr : (rwg (j + 1) fun j => sgz s.neg * s.Z i (n + j)) = R at *
            generalize (rwg j fun j => sgz s.neg * s.Z i (n + j)) = R0 at *
            generalize sgz s.neg * s.Z i (n + j) = z1 at *
            generalize s.Z i (n + j) = z0 at *
            clear qz bz sg q2 hc hset0 y0
            have hw := i64_nat hj6
            refine go3 ?_
            exact rec2 _ ⟨_, _, _, _, fun y hy => hc2 _ _ y hy, by simp; omega, .inr ⟨k, v + 1, hk, rfl, app_get (List.getElem?_set_self kl) _⟩, rfl⟩
        · clear hc
          rintro s' ⟨j15, j87, cur, g'', hc, hge, hcur, rfl⟩
          have hlt2 : ¬ ((m : Int) < (m : Int)) := nlt_c
          have hcell := rwg_set (f := cell) (x := cur) hi
          have hc1 : ∀ y, y < i + 1 → XR h0.length G'.length g''.length g'' ((fun y => if y = i then cur else cell y) y) (rwg m fun j => sgz s.neg * s.Z y (n + j)) := fun y hy => by
            show XR _ _ _ _ (if y = i then cur else cell y) _
            by_cases e : y = i
            · subst e
              rw [if_pos rfl]
              rcases hcur with ⟨h1, h2⟩ | ⟨k, v, h1, h2, h3⟩
              · exact .inl ⟨by rw [h1]; rfl, h2⟩
              · exact .inr ⟨k, v, (List.getElem?_eq_some_iff.1 h3).1, by rw [rwg_len]; exact h2, h3⟩
            · rw [if_neg e]
              exact (hc y (by omega)).le hge
          have hc3 : ∀ y, i + 1 ≤ y → (fun y => if y = i then cur else cell y) y = .nil := fun y hy => by
            show (if y = i then cur else cell y) = .nil
            rw [if_neg (by omega)]
            exact hnil y (by omega)
          generalize (fun y => if y = i then cur else cell y) = cell' at *
          clear qz bz sg hset0 y0 y1 y2 hc hcur
          have hw := i64_nat hi6
          refine go3 ?_
          exact rec _ ⟨_, _, _, _, _, _, _, _, _, hc1, hc3, rfl⟩
      · rintro s' ⟨j13, j15, j74, j84, j85, j86, j87, cell, g', hc, hnil, rfl⟩
        have a1 := app_get w1
        have fx : ∀ y l, fzR (Go.AM.frz (h0.set 0 y ++ (G' ++ (some ⟨0, 1, rwg n cell⟩ :: (g' ++ l)))) 5) (some (some ⟨0, 1, rwg n cell⟩)) 0 0 n = _ := fun y l => fz_XR 2 (h0 := h0.set 0 y) (G := G') (g := g' ++ l) (n := n) (m := m) (cell := cell) (f := fun i j => sgz s.neg * s.Z i (n + j)) (fun i hi => (hc i hi).grow l) List.length_set rfl
        have hl2 : ∀ y l, (h0.set 0 y ++ (G' ++ l))[h0.length + G'.length]? = l[0]? := fun y l => by
          have := get_app (h0.set 0 y) (G' ++ l) G'.length
          rw [List.length_set] at this
          rw [this, get_app0]
        have s1 := fun l => sg l s.pv (by omega)
        have xl := rwg_len n cell
        subst hP
        clear b3 sg hc hnil H3
        generalize (tbg n m fun i j => sgz s.neg * s.Z i (n + j)) = X at *
        generalize sgz s.neg * s.pv = pd at *
        refine go3 ?_
        trivial
end Go.S

end
section
set_option linter.unusedVariables false
set_option linter.unusedSimpArgs false
set_option maxRecDepth 100000
namespace Go.S
open Go Go.AM Go.RowKit Go.K
theorem s_bSolve0 : CP (CL F) 19 [.lst [], .lst []] = some (.tup [.lst [], eZ 1, eI 0]) := by
  refine CP_X (F := F) (f := 19) rfl rfl ?_
  have k1 : CP (CL F) 26 [.lst [], eI 0] = some (.bool true) := s_shaped (t := []) (by simp) 0
  have b1 := s_zbegin0 [some ⟨0, 2, [zZ]⟩, none]
  change CL F _ _ _ = some (.ptr 2 0 0 0, [some ⟨0, 2, [zZ]⟩, none, some ⟨0, 4, [aB .nil 1 false]⟩]) at b1
  have b2 := s_zrun0 [some ⟨0, 2, [zZ]⟩, none] true
  change CL F _ [.ptr 2 0 0 0, .bool true] [some ⟨0, 2, [zZ]⟩, none, some ⟨0, 4, [aB .nil 1 false]⟩] = some (.bool true, [some ⟨0, 2, [zZ]⟩, none, some ⟨0, 4, [aB .nil 1 false]⟩]) at b2
  have b3 := s_signed (n := 0) (c := 0) (Z := fun _ _ => 0) (key := fun _ => 0) (vt := 0) (h0 := [some ⟨0, 2, [zZ]⟩, none]) (G := [some ⟨0, 4, [aB .nil 1 false]⟩, some ⟨0, 1, []⟩]) (tb := .nil) (pv := 1) (neg := false) rfl (a := 1) (by have := L_one; omega)
  rw [show sgz false * 1 = 1 from rfl] at b3
  change CL F _ [.ptr 2 0 0 0, eZ 1] [some ⟨0, 2, [zZ]⟩, none, some ⟨0, 4, [aB .nil 1 false]⟩, some ⟨0, 1, []⟩] = some (_, [some ⟨0, 2, [zZ]⟩, none, some ⟨0, 4, [aB .nil 1 false]⟩, some ⟨0, 1, []⟩, some ⟨0, 2, [eZ 1]⟩, some ⟨0, 2, [eZ 1]⟩]) at b3
  have r0 : List.replicate (Int.toNat 0) AV.nil = [] := rfl
  generalize (1 : Int) = o at b1 b2 b3
  refine go3 ?_
  refine X_round ?_
  refine go3 ?_
  refine X_round ?_
  refine go3 ?_
  trivial
def widz (t : List (List Int)) : Nat := (t.getD 0 default).length
set_option maxHeartbeats 2000000
theorem s_bSolve_bad {a b : List (List Int)} (ha : a.length ≤ 1000000) (hb : b.length ≤ 1000000) (h : ¬ (shp a a.length = true ∧ shp b (widz b) = true ∧ b.length = a.length)) : CP (CL F) 19 [eTZ a, eTZ b] = some (.tup [.lst [], .agg [.bool false, .lst []], eI 8]) := by
  refine CP_X (F := F) (f := 19) rfl rfl ?_
  have k1 := s_shaped ha a.length
  have k2 := s_shaped hb (widz b)
  have key : shp a a.length = false ∨ shp b (widz b) = false ∨ b.length ≠ a.length := by
    cases h1 : shp a a.length
    · exact .inl rfl
    · cases h2 : shp b (widz b)
      · exact .inr (.inl rfl)
      · exact .inr (.inr fun h3 => h ⟨h1, h2, h3⟩)
  clear h
  rcases Nat.eq_zero_or_pos b.length with e | e
  · obtain rfl := List.eq_nil_of_length_eq_zero e
    change CP (CL F) _ [eTZ [], eI 0] = _ at k2
    change CP (CL F) _ [eTZ a, _] = _ at k1
    have e0 : shp [] (widz []) = true := rfl
    rw [e0] at k2
    rcases key with h | h | h
    · rw [h] at k1
      clear h e
      refine go3 ?_
      trivial
    · rw [e0] at h; cases h
    · have c1 : ((0 : Int) ≠ (a.length : Int)) := by simp at h; omega
      have c2 : ¬ ((0 : Int) = (a.length : Int)) := by omega
      clear h e
      cases h1 : shp a a.length <;> (rw [h1] at k1; clear h1; refine go3 ?_; trivial)
  · have g0 := em_getN (f := eRZ) b 0 e
    have e1 : ((0 : Int) < (b.length : Int)) := by omega
    unfold widz at *
    generalize b.getD 0 default = r at *
    rcases key with h | h | h
    · rw [h] at k1
      clear h e
      refine go3 ?_
      trivial
    · rw [h] at k2
      clear h e
      cases h1 : shp a a.length <;> (rw [h1] at k1; clear h1; refine go3 ?_; trivial)
    · have c1 : ((b.length : Int) ≠ (a.length : Int)) := by omega
      have c2 : ¬ ((b.length : Int) = (a.length : Int)) := by omega
      clear h e
      cases h1 : shp a a.length <;> cases h2 : shp b r.length <;> (rw [h1] at k1; rw [h2] at k2; clear h1 h2; refine go3 ?_; trivial)
def crz (A B : Zt) (i j : Nat) : Zt := fun r c => if c = i then B r j else A r c
theorem s_rSolve0 {n K : Nat} {A : Zt} {b : List (List Int)} (hn : n ≤ 100) (hA : ∀ i, i < n → ∀ c, c < n → L (A i c) ≤ K) (hK : K + zB K n < 10000000) (h : zdet n A = 0) : CP (CL F) 21 [rTZ (tbg n n A), rTZ b] = some (.tup [.lst [], .agg [.bool false, .lst []], eI 7]) := by
  refine CP_X (F := F) (f := 21) rfl rfl ?_
  have d := s_refDet15 n hn hA hK
  have s := s_r07_Sign (zdet n A)
  rw [show sgn (zdet n A) = 0 by rw [h]; rfl] at s
  generalize tbg n n A = T at *
  clear h hK hA
  generalize zdet n A = z at *
  refine go3 ?_
  trivial
theorem s_rSolve {n m K : Nat} {A B : Zt} (h0n : 0 < n) (hn : n ≤ 100) (hm : m ≤ 100) (hA : ∀ i, i < n → ∀ c, c < n → L (A i c) ≤ K) (hB : ∀ i, i < n → ∀ c, c < m → L (B i c) ≤ K) (hK : K + zB K n < 10000000) (h : zdet n A ≠ 0) :
    CP (CL F) 21 [rTZ (tbg n n A), rTZ (tbg n m B)] = some (.tup [rTZ (tbg n m fun i j => zdet n (crz A B i j)), rZ (zdet n A), eI 0]) := by
  refine CP_X (F := F) (f := 21) rfl rfl ?_
  have d := s_refDet15 n hn hA hK
  have s := s_r07_Sign (zdet n A)
  have s2 : ¬ (sgn (zdet n A) = 0) := fun e => h (sgn_zero.1 e)
  have dc : ∀ i, i < n → ∀ j, j < m → CP (CL F) 14 [rTZ (tbg n n (crz A B i j))] = some (rZ (zdet n (crz A B i j))) := fun i hi j hj => s_refDet15 n hn (fun r hr c hc => by
    unfold crz
    split
    · exact hB r hr j hj
    · exact hA r hr c hc) hK
  have tl := tbg_len n n A
  have gA : ∀ i, i < n → (em rRZ (tbg n n A))[i]? = some (rRZ (rwg n (A i))) := fun i hi => by
    have := em_getN (f := rRZ) (tbg n n A) i (by rw [tbg_len]; exact hi)
    rwa [tbg_get hi] at this
  have gB : ∀ i, i < n → (em rRZ (tbg n m B))[i]? = some (rRZ (rwg m (B i))) := fun i hi => by
    have := em_getN (f := rRZ) (tbg n m B) i (by rw [tbg_len]; exact hi)
    rwa [tbg_get hi] at this
  have g0 := gB 0 h0n
  have l0 := rwg_len m (B 0)
  have lA : ∀ i, (rwg n (A i)).length = n := fun i => rwg_len _ _
  have lB : ∀ i, (rwg m (B i)).length = m := fun i => rwg_len _ _
  have gBj : ∀ i j, j < m → (em rZ (rwg m (B i)))[j]? = some (rZ (B i j)) := fun i j hj => by
    have := em_getN (f := rZ) (rwg m (B i)) j (by rw [rwg_len]; exact hj)
    rwa [rwg_get hj] at this
  have gAi : ∀ k i, i < n → (em rZ (rwg n (A k)))[i]? = some (rZ (A k i)) := fun k i hi => by
    have := em_getN (f := rZ) (rwg n (A k)) i (by rw [rwg_len]; exact hi)
    rwa [rwg_get hi] at this
  have hlt0 : ((0 : Int) < (n : Int)) := by omega
  have rs : ∀ i, i < n → ∀ j k, (rwg n (A k)).set i (B k j) = rwg n (crz A B i j k) := fun i hi j k => rwg_set hi
  generalize tbg n n A = TA at *
  generalize tbg n m B = TB at *
  generalize hX : (fun i j => zdet n (crz A B i j)) = X at *
  have hX2 : ∀ i j, zdet n (crz A B i j) = X i j := fun i j => by rw [← hX]
  clear hX h hA hB hK
  generalize zdet n A = z at *
  refine go3 ?_
  refine X_up n (fun i s => ∃ j10 j11 j12 j13 j14 j25 j34 j41 v g, s = ⟨[(0, rTZ TA), (1, rTZ TB), (4, .nil), (5, .ptr 0 0 0 0), (6, eI 0), (7, .ptr 1 0 0 0), (8, .ref 2 v 1 0 i), (9, eI i), (10, j10), (11, j11), (12, j12), (13, j13), (14, j14), (19, .bool false), (25, j25), (34, j34), (41, j41)], some ⟨0, 2, [zZ]⟩ :: some ⟨0, 2, [rZ z]⟩ :: some ⟨v, 1, em rRZ (tbg i m X)⟩ :: g⟩) ?_ ?_ 0 (Nat.zero_le _) _ ⟨_, _, _, _, _, _, _, _, _, [], rfl⟩
  · rintro i s hi ⟨j10, j11, j12, j13, j14, j25, j34, j41, v, g, rfl⟩ rec
    have hlt := lt_c hi
    have sn := tbg_snoc i m X
    have bl := tbg_len i m X
    have bt : List.take i (tbg i m X) = tbg i m X := take_len_g _ bl.symm
    have hi6 : i < 9223372036854775807 := by omega
    have hlim : i < 5864062014805 := by omega
    have dci := dc i hi
    have rsi := rs i hi
    refine go3 ?_
    refine X_up m (fun j s => ∃ j12 j13 j14 j34 j41 v2 g2, s = ⟨[(0, rTZ TA), (1, rTZ TB), (4, .nil), (5, .ptr 0 0 0 0), (6, eI 0), (7, .ptr 1 0 0 0), (8, .ref 2 v 1 0 i), (9, eI i), (10, .ref (g.length + 1 + 1 + 1) v2 2 0 j), (11, eI j), (12, j12), (13, j13), (14, j14), (19, .bool false), (25, .bool true), (34, j34), (41, j41)], some ⟨0, 2, [zZ]⟩ :: some ⟨0, 2, [rZ z]⟩ :: some ⟨v, 1, em rRZ (tbg i m X)⟩ :: (g ++ (some ⟨v2, 2, em rZ (rwg j (X i))⟩ :: g2))⟩) ?_ ?_ 0 (Nat.zero_le _) _ ⟨_, _, _, _, _, _, [], rfl⟩
    · rintro j s hj ⟨j12, j13, j14, j34, j41, v2, g2, rfl⟩ rec2
      have hlt2 := lt_c hj
      have dj := dci j hj
      rw [hX2] at dj
      have sn2 := rwg_snoc j (X i)
      have bl2 := rwg_len j (X i)
      have bt2 : List.take j (rwg j (X i)) = rwg j (X i) := take_len_g _ bl2.symm
      have hj6 : j < 9223372036854775807 := by omega
      have hlim2 : j < 4398046511104 := by omega
      have rsj := rsi j
      have gj := fun i => gBj i j hj
      clear rec dci rsi sn
      refine go3 ?_
      refine X_up n (fun k s => ∃ j14 j41 v3 g3, s = ⟨[(0, rTZ TA), (1, rTZ TB), (4, .nil), (5, .ptr 0 0 0 0), (6, eI 0), (7, .ptr 1 0 0 0), (8, .ref 2 v 1 0 i), (9, eI i), (10, .ref (g.length + 1 + 1 + 1) v2 2 0 j), (11, eI j), (12, .ref (g.length + (g2.length + 1) + 1 + 1 + 1) v3 1 0 k), (13, eI k), (14, j14), (19, .bool false), (25, .bool true), (34, .bool true), (41, j41)], some ⟨0, 2, [zZ]⟩ :: some ⟨0, 2, [rZ z]⟩ :: some ⟨v, 1, em rRZ (tbg i m X)⟩ :: (g ++ (some ⟨v2, 2, em rZ (rwg j (X i))⟩ :: (g2 ++ (some ⟨v3, 1, em rRZ (tbg k n (crz A B i j))⟩ :: g3))))⟩) ?_ ?_ 0 (Nat.zero_le _) _ ⟨_, _, _, [], rfl⟩
      · rintro k s hk ⟨j14, j41, v3, g3, rfl⟩ rec3
        have hlt3 := lt_c hk
        have q1 := gA k hk
        have q2 := gB k hk
        have q3 := gj k
        have q4 := rsj k
        have q5 := lA k
        have q6 := lB k
        have q7 := gAi k i hi
        have sn3 := tbg_snoc k n (crz A B i j)
        have bl3 := tbg_len k n (crz A B i j)
        have bt3 : List.take k (tbg k n (crz A B i j)) = tbg k n (crz A B i j) := take_len_g _ bl3.symm
        have bl4 := rwg_len n (crz A B i j k)
        have bt4 : List.take n (rwg n (A k)) = rwg n (A k) := take_len_g _ q5.symm
        have bt5 : List.take n (rwg n (crz A B i j k)) = rwg n (crz A B i j k) := take_len_g _ bl4.symm
        have hk6 : k < 9223372036854775807 := by omega
        have hlim3 : k < 5864062014805 := by omega
        have hlim4 : n ≤ 4398046511104 := by omega
        generalize rwg n (crz A B i j k) = Rn at *
        generalize rwg n (A k) = Ra at *
        generalize rwg m (B k) = Rb at *
        generalize tbg k n (crz A B i j) = T3 at *
        generalize tbg (k + 1) n (crz A B i j) = T3' at *
        generalize rwg j (X i) = R2 at *
        generalize tbg i m X = T1 at *
        have hw := i64_nat hk6
        clear gA gB gj gBj gAi rsj lA lB rs rec2 dc d dj sn2
        refine go3 ?_
        exact rec3 _ ⟨_, _, _, _, rfl⟩
      · rintro s ⟨j14, j41, v3, g3, rfl⟩
        have hlt3 : ¬ ((n : Int) < (n : Int)) := nlt_c
        have bl3 := tbg_len n n (crz A B i j)
        have bt3 : List.take n (tbg n n (crz A B i j)) = tbg n n (crz A B i j) := take_len_g _ bl3.symm
        generalize tbg n n (crz A B i j) = T3 at *
        generalize hR2 : rwg j (X i) = R2 at *
        generalize rwg (j + 1) (X i) = R2' at *
        generalize tbg i m X = T1 at *
        have hw := i64_nat hj6
        clear gA gB gj gBj gAi rsj lA lB rs dc d
        refine go3 ?_
        exact rec2 _ ⟨_, _, _, _, _, _, _, rfl⟩
    · rintro s ⟨j12, j13, j14, j34, j41, v2, g2, rfl⟩
      have hlt2 : ¬ ((m : Int) < (m : Int)) := nlt_c
      have bl2 := rwg_len m (X i)
      have sb2 : sub (em rZ (rwg m (X i))) 0 m = em rZ (rwg m (X i)) := by
        have := sub_full (f := rZ) (rwg m (X i))
        rwa [rwg_len] at this
      have bt2 : List.take m (rwg m (X i)) = rwg m (X i) := take_len_g _ bl2.symm
      generalize rwg m (X i) = R2 at *
      generalize tbg i m X = T1 at *
      generalize tbg (i + 1) m X = T1' at *
      have hw := i64_nat hi6
      clear gA gB gBj gAi lA lB rs dc d dci rsi
      refine go3 ?_
      exact rec _ ⟨_, _, _, _, _, _, _, _, _, _, rfl⟩
  · rintro s ⟨j10, j11, j12, j13, j14, j25, j34, j41, v, g, rfl⟩
    have hlt : ¬ ((n : Int) < (n : Int)) := nlt_c
    have bl := tbg_len n m X
    have bt : List.take n (tbg n m X) = tbg n m X := take_len_g _ bl.symm
    clear gA gB gBj gAi lA lB rs dc d
    generalize tbg n m X = T1 at *
    refine go3 ?_
    trivial
end Go.S

end
section
set_option linter.unusedVariables false
set_option linter.unusedSimpArgs false
namespace Go.S
open Go Go.AM Go.RowKit Go.K
def tk : Nat → ACode → ACode
  | 0, _ => .skip
  | n + 1, .seq a b => .seq a (tk n b)
  | _ + 1, x => x
def dp : Nat → ACode → ACode
  | 0, x => x
  | n + 1, .seq _ b => dp n b
  | _ + 1, _ => .skip
section
variable {F : Nat → Option AFunc} {ks : List Nat}
theorem X_tkdp {Q : Ex → St → Prop} : ∀ (n : Nat) (a : ACode) (s : St) (k : Kt), X F ks Q (.seq (tk n a) (dp n a)) s k → X F ks Q a s k := by
  have last : ∀ (x : ACode) (s : St) (k : Kt), X F ks Q (.seq x .skip) s k → X F ks Q x s k := by
    intro x s k h
    rw [X_seq] at h
    refine W_mono h fun e s' he => ?_
    cases e with
    | normal => rw [Y_seq, X_skip] at he; exact he
    | exit i => exact he
    | ret => exact he
  intro n
  induction n with
  | zero => intro a s k h; rw [X_seq] at h; exact (X_skip.1 h)
  | succ n ih =>
    intro a s k h
    cases a with
    | seq a b =>
      rw [X_seq]
      simp only [tk, dp] at h
      rw [X_seq, X_seq] at h
      refine W_mono h fun e s' he => ?_
      cases e with
      | normal =>
        rw [Y_seq] at he ⊢
        exact ih _ _ _ (X_seq.2 he)
      | exit i => exact he
      | ret => exact he
    | _ => exact last _ _ _ h
theorem X_split {Q : Ex → St → Prop} {a : ACode} {s : St} {k : Kt} (n : Nat) (P : St → Prop) (h : X F ks (fun e s' => e = .normal ∧ P s') (tk n a) s .done) (h2 : ∀ s', P s' → X F ks Q (dp n a) s' k) : X F ks Q a s k := by
  refine X_tkdp n a s k ?_
  rw [X_seq]
  refine X_cut _ h ?_
  rintro e s' ⟨rfl, hp⟩
  rw [Y_seq]
  exact h2 _ hp
end
end Go.S

end
section
set_option linter.unusedVariables false
set_option linter.unusedSimpArgs false
set_option maxRecDepth 100000
namespace Go.S
open Go Go.AM Go.RowKit Go.K
def goodz (a b : List (List Int)) : Prop := (∀ r ∈ a, r.length = a.length) ∧ b.length = a.length ∧ ∀ r ∈ b, r.length = widz b
def Solz (a b : List (List Int)) (xv c1 c2 : AV) (ev : Int) : Prop :=
  (¬ goodz a b ∧ xv = .lst [] ∧ ev = 8) ∨ (a = [] ∧ b = [] ∧ xv = .lst [] ∧ .agg [c1, c2] = eZ 1 ∧ ev = 0) ∨
  ∃ n m A B, (0 < n ∧ n ≤ 6 ∧ m ≤ 6 ∧ a = tbg n n A ∧ b = tbg n m B ∧ (∀ i j, L (A i j) ≤ 2) ∧ ∀ i j, L (B i j) ≤ 2) ∧
    ((zdet n A = 0 ∧ xv = .lst [] ∧ ev = 7) ∨
     (zdet n A ≠ 0 ∧ xv = eTZ (tbg n m fun i j => zdet n (crz A B i j)) ∧ .agg [c1, c2] = eZ (zdet n A) ∧ ev = 0 ∧ ∀ i, i < n → ∀ j, j < m → zsm n (fun k => A i k * zdet n (crz A B k j)) = B i j * zdet n A))
theorem solz {a b : List (List Int)} (ha : a.length ≤ 6) (hb : b.length ≤ 6) (ha2 : ∀ r ∈ a, r.length ≤ 6 ∧ ∀ z ∈ r, L z ≤ 2) (hb2 : ∀ r ∈ b, r.length ≤ 6 ∧ ∀ z ∈ r, L z ≤ 2) :
    ∃ xv bb ll ev, CP (CL F) 19 [eTZ a, eTZ b] = some (.tup [xv, .agg [.bool bb, .lst ll], eI ev]) ∧ Solz a b xv (.bool bb) (.lst ll) ev := by
  by_cases hg : goodz a b
  · obtain ⟨g1, g2, g3⟩ := hg
    rcases Nat.eq_zero_or_pos a.length with e | e
    · have ea := List.eq_nil_of_length_eq_zero e
      have eb := List.eq_nil_of_length_eq_zero (show b.length = 0 by omega)
      subst ea
      subst eb
      exact ⟨_, _, _, _, s_bSolve0, .inr (.inl ⟨rfl, rfl, rfl, rfl, rfl⟩)⟩
    · have hA := eng_size (t := a) fun r hr => (ha2 r hr).2
      have hB := eng_size (t := b) fun r hr => (hb2 r hr).2
      have ea := (tbg_of g1).symm
      have eb := (tbg_of g3).symm
      have hm : widz b ≤ 6 := by
        unfold widz
        exact (hb2 _ (getD_mem (by omega))).1
      rw [g2] at eb
      generalize eng a = A at *
      generalize eng b = B at *
      generalize widz b = m at *
      generalize a.length = n at *
      have k := s_bSolve (n := n) (m := m) (K := 2) (A := A) (B := B) e (by omega) (by omega) (fun i _ j _ => hA i j) (fun i _ j _ => hB i j) (two_pow_6 ha)
      rw [← ea, ← eb] at k
      have hc : zdet n (abz n A B) = zdet n A := zdet_congr fun i c hi hc => by unfold abz; rw [if_pos hc]
      unfold bsol at k
      cases hz : zrun n (abz n A B) n with
      | none =>
        rw [hz] at k
        have := zrun_none hz
        exact ⟨_, _, _, _, k, .inr (.inr ⟨n, m, A, B, ⟨e, ha, hm, ea, eb, hA, hB⟩, .inl ⟨by rw [← hc]; exact this, rfl, rfl⟩⟩)⟩
      | some s =>
        rw [hz] at k
        obtain ⟨d1, d2⟩ := zrun_det hz
        rw [hc] at d1 d2
        have cr : ∀ i, i < n → ∀ j, zdet n (crz A B i j) = sgz s.neg * s.Z i (n + j) := fun i hi j => by
          rw [← zrun_cramer hz hi (n + j)]
          refine zdet_congr fun r c hr hc => ?_
          unfold crz rpl abz
          by_cases h : c = i
          · rw [if_pos h, if_pos h, if_neg (by omega), show n + j - n = j by omega]
          · rw [if_neg h, if_neg h, if_pos hc]
        have ht : (tbg n m fun i j => sgz s.neg * s.Z i (n + j)) = tbg n m fun i j => zdet n (crz A B i j) := tbg_congr fun i hi j hj => (cr i hi j).symm
        simp only at k
        rw [ht, ← d1] at k
        refine ⟨_, _, _, _, k, .inr (.inr ⟨n, m, A, B, ⟨e, ha, hm, ea, eb, hA, hB⟩, .inr ⟨d2, rfl, rfl, rfl, fun i hi j hj => ?_⟩⟩)⟩
        have sv := zrun_solves hz hi (n + j)
        rw [← d1, show abz n A B i (n + j) = B i j from by unfold abz; rw [if_neg (by omega), show n + j - n = j by omega]] at sv
        rw [← sv]
        refine zsm_congr fun k hk => ?_
        rw [cr k hk, show abz n A B i k = A i k from by unfold abz; rw [if_pos hk]]
  · refine ⟨_, _, _, _, s_bSolve_bad (by omega) (by omega) (fun h => hg ?_), .inl ⟨hg, rfl, rfl⟩⟩
    obtain ⟨h1, h2, h3⟩ := h
    exact ⟨(shp_iff.1 h1).2.2, h3, (shp_iff.1 h2).2.2⟩
set_option maxHeartbeats 4000000
theorem law_BareissSolves {t : List (List XZ)} (ht : ∀ l ∈ t, ∀ x ∈ l, x.ok) {u' : List (List XZ)} (hu : ∀ l ∈ u', ∀ x ∈ l, x.ok) : CP (CL F) 5 [.lst (em eXZL t), .lst (em eXZL u')] = some (.bool true) := by
  refine CP_X (F := F) (f := 5) rfl rfl ?_
  have f1 := s_Few15 ht (most := 3) (by decide)
  replace f1 : CP (CL F) 7 [.lst (em eXZL t), eI 3] = _ := f1
  have fl := fewz_len 3 t
  have fr := fun r (h : r ∈ fewz 3 t) => fewz_row h
  generalize fewz 3 t = a at *
  have f2 := s_Few15 hu (most := 3) (by decide)
  replace f2 : CP (CL F) 7 [.lst (em eXZL u'), eI 3] = _ := f2
  have gl := fewz_len 3 u'
  have gr := fun r (h : r ∈ fewz 3 u') => fewz_row h
  generalize fewz 3 u' = b at *
  obtain ⟨xv, d1, d2, ev, k3, cl⟩ := solz (a := a) (b := b) (by omega) (by omega) (fun r hr => ⟨by have := (fr r hr).1; omega, (fr r hr).2⟩) (fun r hr => ⟨by have := (gr r hr).1; omega, (gr r hr).2⟩)
  have w := s_works15
  have sq := s_Square (t := a) (by omega)
  refine X_split 6 (fun s' => ∃ j13 j47, s' = ⟨[(0, .lst (em eXZL t)), (1, .lst (em eXZL u')), (4, .bool false), (5, eTZ a), (6, rTZ a), (7, eTZ b), (8, rTZ b), (9, xv), (10, .ptr 0 0 0 0), (11, eI ev), (12, .bool (decide (b.length = a.length ∧ ∀ r ∈ b, r.length = widz b))), (13, j13), (14, .undef), (15, .undef), (16, .undef), (17, .undef), (18, .undef), (47, j47), (66, .undef), (79, .undef), (104, .undef), (132, .undef), (136, .undef), (149, .undef), (156, .undef), (175, .undef)], [some ⟨0, 2, [.agg [.bool d1, .lst d2]]⟩]⟩) ?_ ?_
  · clear cl sq w
    simp only [tk, dp]
    have bl6 : b.length < 1000 := by omega
    generalize hP : (fun e s' => e = Ex.normal ∧ ∃ j13 j47, s' = (⟨[(0, .lst (em eXZL t)), (1, .lst (em eXZL u')), (4, .bool false), (5, eTZ a), (6, rTZ a), (7, eTZ b), (8, rTZ b), (9, xv), (10, .ptr 0 0 0 0), (11, eI ev), (12, .bool (decide (b.length = a.length ∧ ∀ r ∈ b, r.length = widz b))), (13, j13), (14, .undef), (15, .undef), (16, .undef), (17, .undef), (18, .undef), (47, j47), (66, .undef), (79, .undef), (104, .undef), (132, .undef), (136, .undef), (149, .undef), (156, .undef), (175, .undef)], [some ⟨0, 2, [.agg [.bool d1, .lst d2]]⟩]⟩ : St)) = P
    clear fr gr ht hu gl fl
    by_cases hba : b.length = a.length
    · have c0 := eq_true (show ((b.length : Int) = (a.length : Int)) by omega)
      replace hba := eq_true hba
      refine go3 ?_
      clear f1 f2 k3
      refine X_upto b.length (fun i s => ∃ rb j47, (rb = true → ∀ y, y < i → (b.getD y default).length = widz b) ∧ (rb = false → ∃ r ∈ b, r.length ≠ widz b) ∧ s = ⟨[(0, .lst (em eXZL t)), (1, .lst (em eXZL u')), (4, .bool false), (5, eTZ a), (6, rTZ a), (7, eTZ b), (8, rTZ b), (9, xv), (10, .ptr 0 0 0 0), (11, eI ev), (12, .bool rb), (13, eI i), (14, .undef), (15, .undef), (16, .undef), (17, .undef), (18, .undef), (47, j47), (66, .undef), (79, .undef), (104, .undef), (132, .undef), (136, .undef), (149, .undef), (156, .undef), (175, .undef)], [some ⟨0, 2, [.agg [.bool d1, .lst d2]]⟩]⟩) ?_ 0 (Nat.zero_le _) _ ⟨true, _, fun _ y hy => absurd hy (by omega), fun h => absurd h (by decide), rfl⟩
      rintro i s hi ⟨rb, j47, h1, h2, rfl⟩ rec
      by_cases hlt : i < b.length
      · have hlt' := lt_c hlt
        cases rb with
        | false =>
          have hf : decide (b.length = a.length ∧ ∀ r ∈ b, r.length = widz b) = false := by
            obtain ⟨r, hr, hn⟩ := h2 rfl
            exact decide_eq_false fun h => hn (h.2 r hr)
          rw [hf] at hP
          clear h1 h2 rec hi hf
          refine go3 ?_
          subst hP
          exact ⟨rfl, _, _, rfl⟩
        | true =>
          have hall := h1 rfl
          have g1 := em_getN (f := rRZ) b i hlt
          have g0 := em_getN (f := rRZ) b 0 (by omega)
          have hl0 : ((0 : Int) < (b.length : Int)) := by omega
          by_cases e : (b.getD i default).length = widz b
          · have hn : ∀ y, y < i + 1 → (b.getD y default).length = widz b := fun y hy => by
              by_cases h : y = i
              · rw [h]; exact e
              · exact hall y (by omega)
            have c1 := eq_true (show (((b.getD i default).length : Int) = ((b.getD 0 default).length : Int)) by unfold widz at e; omega)
            have hw := i64_nat (n := i) (by omega)
            generalize b.getD i default = ri at *
            generalize b.getD 0 default = r0 at *
            clear hall h1 h2 e hi
            refine go3 ?_
            exact rec _ hlt ⟨true, _, fun _ => hn, fun h => absurd h (by decide), rfl⟩
          · have hn : ∃ r ∈ b, r.length ≠ widz b := ⟨_, getD_mem hlt, e⟩
            have c1 := eq_false (show ¬ (((b.getD i default).length : Int) = ((b.getD 0 default).length : Int)) by unfold widz at e; omega)
            have hw := i64_nat (n := i) (by omega)
            generalize b.getD i default = ri at *
            generalize b.getD 0 default = r0 at *
            clear hall h1 h2 e hi
            refine go3 ?_
            exact rec _ hlt ⟨false, _, fun h => absurd h (by decide), fun _ => hn, rfl⟩
      · have hlt' : ¬ ((i : Int) < (b.length : Int)) := by omega
        have hf : decide (b.length = a.length ∧ ∀ r ∈ b, r.length = widz b) = rb := by
          cases rb with
          | false =>
            obtain ⟨r, hr, hn⟩ := h2 rfl
            exact decide_eq_false fun h => hn (h.2 r hr)
          | true =>
            refine decide_eq_true ⟨of_eq_true hba, fun r hr => ?_⟩
            obtain ⟨y, hy, rfl⟩ := List.getElem_of_mem hr
            have := h1 rfl y (by omega)
            simp only [List.getD, List.getElem?_eq_getElem hy, Option.getD_some] at this
            exact this
        rw [hf] at hP
        clear h1 h2 rec hi hf
        refine go3 ?_
        subst hP
        exact ⟨rfl, _, _, rfl⟩
    · have c0 := eq_false (show ¬ ((b.length : Int) = (a.length : Int)) by omega)
      have hf : decide (b.length = a.length ∧ ∀ r ∈ b, r.length = widz b) = false := decide_eq_false fun h => hba h.1
      rw [hf] at hP
      clear hba hf
      refine go3 ?_
      clear f1 f2 k3
      refine X_round ?_
      rcases Nat.eq_zero_or_pos b.length with e | e
      · have e1 : ¬ ((0 : Int) < (b.length : Int)) := by omega
        clear e
        refine go3 ?_
        subst hP
        exact ⟨rfl, _, _, rfl⟩
      · have e1 : ((0 : Int) < (b.length : Int)) := by omega
        clear e
        refine go3 ?_
        subst hP
        exact ⟨rfl, _, _, rfl⟩
  · rintro s' ⟨j13, j47, rfl⟩
    simp only [tk, dp]
    clear f1 f2 k3 ht hu
    have sqt : (∀ r ∈ a, r.length = a.length) → (a.all fun r => decide (r.length = a.length)) = true := fun h => by
      rw [List.all_eq_true]
      intro r hr
      simpa using h r hr
    rcases cl with ⟨hg, rfl, rfl⟩ | ⟨rfl, rfl, rfl, he, rfl⟩ | ⟨n, m, A, B, ⟨h0n, hn, hm, ea, eb, hA, hB⟩, cl⟩
    · by_cases h1 : ∀ r ∈ a, r.length = a.length
      · rw [sqt h1] at sq
        rw [show decide (b.length = a.length ∧ ∀ r ∈ b, r.length = widz b) = false from decide_eq_false fun h => hg ⟨h1, h⟩]
        clear h1 hg fr gr sqt
        refine go3 ?_
        trivial
      · have e1 : (a.all fun r => decide (r.length = a.length)) = false := by
          rw [← Bool.not_eq_true, List.all_eq_true]
          intro h
          exact h1 fun r hr => by simpa using h r hr
        rw [e1] at sq
        clear h1 hg fr gr sqt e1
        refine go3 ?_
        trivial
    · rw [he]
      have one := s_whole_Of (a := 1) (by decide) (by decide)
      have cp := s_whole_Cmp (x := 1) (y := 1) (by have := L_one; omega) (by have := L_one; omega)
      rw [show cmpI 1 1 = 0 from rfl] at cp
      replace sq : CP (CL F) 10 [rTZ []] = some (.bool true) := sq
      rw [show decide (([] : List (List Int)).length = ([] : List (List Int)).length ∧ ∀ r ∈ ([] : List (List Int)), r.length = widz []) = true from rfl]
      clear fr gr sqt he
      generalize hz : eZ 1 = z at *
      obtain ⟨z1, z2, rfl⟩ : ∃ (z1 : Bool) (z2 : List AV), z = .agg [.bool z1, .lst z2] := ⟨_, _, hz.symm⟩
      clear hz
      refine go3 ?_
      trivial
    · have al : a.length = n := by rw [ea, tbg_len]
      have bl : b.length = n := by rw [eb, tbg_len]
      have hsq : ∀ r ∈ a, r.length = a.length := fun r hr => by rw [al]; rw [ea] at hr; exact tbg_row r hr
      rw [sqt hsq] at sq
      have hw : widz b = m := by
        unfold widz
        rw [eb, tbg_get h0n, rwg_len]
      rw [show decide (b.length = a.length ∧ ∀ r ∈ b, r.length = widz b) = true from decide_eq_true ⟨by omega, fun r hr => by rw [hw]; rw [eb] at hr; exact tbg_row r hr⟩]
      have hn0 : ¬ ((n : Int) = 0) := by omega
      have hzb := zB_4 hn
      rcases cl with ⟨hz, rfl, rfl⟩ | ⟨hz, rfl, he, rfl, hs⟩
      · have r1 := s_rSolve0 (b := b) (A := A) (K := 2) (n := n) (by omega) (fun i _ j _ => hA i j) hzb.1 hz
        rw [← ea] at r1
        clear fr gr sqt hsq ea eb hA hB hz hw hzb h0n
        refine go3 ?_
        trivial
      · have r1 := s_rSolve (A := A) (B := B) (K := 2) (n := n) (m := m) h0n (by omega) (by omega) (fun i _ j _ => hA i j) (fun i _ j _ => hB i j) hzb.1 hz
        rw [← ea, ← eb] at r1
        have hd := zdet_size (K := 2) n (A := A) fun i _ j _ => hA i j
        have d3 := s_r07_Back (z := zdet n A) (by omega)
        have d4 := s_r07_Same (x := zdet n A) (y := zdet n A) (by omega)
        rw [decide_eq_true rfl] at d4
        have hX : ∀ i j, L (zdet n (crz A B i j)) ≤ zB 2 n := fun i j => zdet_size (K := 2) n fun r _ c _ => by
          unfold crz
          split
          · exact hB r j
          · exact hA r c
        have e1 : ∀ i j, CP (CL F) 13 [rZ (zdet n (crz A B i j))] = some (eZ (zdet n (crz A B i j))) := fun i j => s_r07_Back (by have := hX i j; omega)
        have e2 : ∀ i j, CP (CL F) 12 [eZ (zdet n (crz A B i j)), eZ (zdet n (crz A B i j))] = some (.bool true) := fun i j => by
          have := s_r07_Same (x := zdet n (crz A B i j)) (y := zdet n (crz A B i j)) (by have := hX i j; omega)
          rwa [decide_eq_true rfl] at this
        rw [he]
        clear hX hs he
        generalize hXX : (fun i j => zdet n (crz A B i j)) = X at *
        have hX2 : ∀ i j, zdet n (crz A B i j) = X i j := fun i j => by rw [← hXX]
        clear hXX
        simp only [hX2] at e1 e2
        have gX : ∀ i, i < n → (em eRZ (tbg n m X))[i]? = some (eRZ (rwg m (X i))) := fun i hi => by
          have := em_getN (f := eRZ) (tbg n m X) i (by rw [tbg_len]; exact hi)
          rwa [tbg_get hi] at this
        have gY : ∀ i, i < n → (em rRZ (tbg n m X))[i]? = some (rRZ (rwg m (X i))) := fun i hi => by
          have := em_getN (f := rRZ) (tbg n m X) i (by rw [tbg_len]; exact hi)
          rwa [tbg_get hi] at this
        have lX := tbg_len n m X
        have gx : ∀ i j, j < m → (em eZ (rwg m (X i)))[j]? = some (eZ (X i j)) := fun i j hj => by
          have := em_getN (f := eZ) (rwg m (X i)) j (by rw [rwg_len]; exact hj)
          rwa [rwg_get hj] at this
        have gy : ∀ i j, j < m → (em rZ (rwg m (X i)))[j]? = some (rZ (X i j)) := fun i j hj => by
          have := em_getN (f := rZ) (rwg m (X i)) j (by rw [rwg_len]; exact hj)
          rwa [rwg_get hj] at this
        have lx : ∀ i, (rwg m (X i)).length = m := fun i => rwg_len _ _
        generalize tbg n m X = TX at *
        generalize zdet n A = d at *
        clear fr gr sqt hsq ea eb hA hB hz hw hzb h0n hd hX2
        refine go3 ?_
        refine X_up n (fun i s => ∃ j18 j136 j149 j156 j175, s = ⟨[(0, .lst (em eXZL t)), (1, .lst (em eXZL u')), (4, .bool false), (5, eTZ a), (6, rTZ a), (7, eTZ b), (8, rTZ b), (9, eTZ TX), (10, .ptr 0 0 0 0), (11, eI 0), (12, .bool true), (13, j13), (14, rTZ TX), (15, .ptr 1 0 0 0), (16, eI 0), (17, eI i), (18, j18), (47, j47), (66, .bool false), (79, .bool false), (104, .bool false), (132, .bool false), (136, j136), (149, j149), (156, j156), (175, j175)], [some ⟨0, 2, [eZ d]⟩, some ⟨0, 2, [rZ d]⟩]⟩) ?_ ?_ 0 (Nat.zero_le _) _ ⟨_, _, _, _, _, rfl⟩
        · rintro i s hi ⟨j18, j136, j149, j156, j175, rfl⟩ rec
          have hlt := lt_c hi
          have g1 := gX i hi
          have g2 := gY i hi
          have g3 := gx i
          have g4 := gy i
          have g5 := lx i
          have e3 := e1 i
          have e4 := e2 i
          have hmm : ¬ ((m : Int) ≠ (m : Int)) := fun h => h rfl
          clear gX gY gx gy lx e1 e2
          refine go3 ?_
          refine X_up m (fun j s => ∃ j156 j175, s = ⟨[(0, .lst (em eXZL t)), (1, .lst (em eXZL u')), (4, .bool false), (5, eTZ a), (6, rTZ a), (7, eTZ b), (8, rTZ b), (9, eTZ TX), (10, .ptr 0 0 0 0), (11, eI 0), (12, .bool true), (13, j13), (14, rTZ TX), (15, .ptr 1 0 0 0), (16, eI 0), (17, eI i), (18, eI j), (47, j47), (66, .bool false), (79, .bool false), (104, .bool false), (132, .bool false), (136, .bool true), (149, .bool false), (156, j156), (175, j175)], [some ⟨0, 2, [eZ d]⟩, some ⟨0, 2, [rZ d]⟩]⟩) ?_ ?_ 0 (Nat.zero_le _) _ ⟨_, _, rfl⟩
          · rintro j s hj ⟨j156, j175, rfl⟩ rec2
            have hlt2 := lt_c hj
            have q1 := g3 j hj
            have q2 := g4 j hj
            have q3 := e3 j
            have q4 := e4 j
            have hw := i64_nat (n := j) (by omega)
            clear g3 g4 e3 e4 rec
            refine go3 ?_
            exact rec2 _ ⟨_, _, rfl⟩
          · rintro s ⟨j156, j175, rfl⟩
            have hlt2 : ¬ ((m : Int) < (m : Int)) := nlt_c
            have hw := i64_nat (n := i) (by omega)
            clear g3 g4 e3 e4
            refine go3 ?_
            exact rec _ ⟨_, _, _, _, _, rfl⟩
        · rintro s ⟨j18, j136, j149, j156, j175, rfl⟩
          have hlt : ¬ ((n : Int) < (n : Int)) := nlt_c
          clear gX gY gx gy lx e1 e2
          refine go3 ?_
          trivial
end Go.S

end
