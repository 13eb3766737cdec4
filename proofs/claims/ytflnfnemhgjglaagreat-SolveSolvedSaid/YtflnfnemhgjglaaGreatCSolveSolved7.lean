/- A part of the proof of the law SolveSolved: an abstract machine for the functions' code with its soundness, words, lemmas (assembled by a program). -/
import Derived.Test.YtflnfnemhgjglaaGreatCSolveSolved6
set_option linter.unusedVariables false
set_option linter.unusedSimpArgs false
set_option linter.unusedSectionVars false
section
set_option linter.unusedVariables false
set_option linter.unusedSimpArgs false
set_option maxRecDepth 100000
namespace Go.S
open Go Go.AM Go.RowKit Go.K
theorem s_sExact0 : CP (CL F) 40 [.lst [], .lst []] = some (.tup [.lst [], eI 0]) := by
  refine CP_X (F := F) (f := 40) rfl rfl ?_
  have k : CP (CL F) 87 [.lst [], .lst [], .bool true] = some (eI 0) := s_shaped16 (a := []) (b := []) (by simp) (by simp) true
  have i := s_bSolve0
  generalize (1 : Int) = o at i
  refine go3 ?_
  refine X_round ?_
  refine go3 ?_
  refine X_round ?_
  refine go3 ?_
  trivial
def rowM (n m : Nat) (A B : Mt) (i : Nat) : Nat := lcs 1 (rowf (n + m) (bsd n A B i))
def clz16 (n m : Nat) (A B C : Mt) : Zt := fun i j => clr (rowM n m A B i) (C i j)
theorem clz_row (n m : Nat) (A B : Mt) (i : Nat) : (rowf (n + m) (bsd n A B i)).map (clr (lcs 1 (rowf (n + m) (bsd n A B i)))) = rwg (n + m) (abz n (clz16 n m A B A) (clz16 n m A B B) i) := by
  unfold rowf rwg
  rw [List.map_map]
  refine List.map_congr_left fun j hj => ?_
  show clr (rowM n m A B i) (bsd n A B i j) = abz n (clz16 n m A B A) (clz16 n m A B B) i j
  unfold abz bsd clz16
  split <;> rfl
def xsol (N : Zt) (d : Int) : Mt := fun i j => Rat.divInt (N i j) d
end Go.S

end
section
set_option linter.unusedVariables false
set_option linter.unusedSimpArgs false
set_option maxRecDepth 100000
namespace Go.S
open Go Go.AM Go.RowKit Go.K
set_option maxHeartbeats 2000000
theorem s_sExact {n m K : Nat} {A B : Mt} {xv : AV} {bb : Bool} {ll : List AV} {ev : Int} {Xo : List (List Rat)} (h0n : 0 < n) (hn : n ≤ 100) (hm : m ≤ 100) (hK : K ≤ 1000) (hAB : ∀ r, r < n → ∀ y, y < n + m → Lq (bsd n A B r y) ≤ K)
    (hs : CP (CL F) 88 [eTZ (tbg n n (clz16 n m A B A)), eTZ (tbg n m (clz16 n m A B B))] = some (.tup [xv, .agg [.bool bb, .lst ll], eI ev]))
    (hx : ev ≠ 0 ∧ Xo = [] ∨ ev = 0 ∧ ∃ N d, d ≠ 0 ∧ L d < 100000 ∧ (∀ i, i < n → ∀ j, j < m → L (N i j) < 100000) ∧ xv = eTZ (tbg n m N) ∧ .agg [.bool bb, .lst ll] = eZ d ∧ Xo = tab n m (xsol N d)) :
    CP (CL F) 40 [eT (tab n n A), eT (tab n m B)] = some (.tup [eT Xo, eI ev]) := by
  have k1 := s_shaped16 (a := tab n n A) (b := tab n m B) (by rw [tab_len]; omega) (by rw [tab_len]; omega) true
  rw [shp16_iff.2 ⟨tab_may (by omega) (by omega), tab_may (by omega) (by omega), by rw [tab_len, tab_len], fun _ => by rw [tab_len, tab_wide h0n]⟩, if_pos rfl] at k1
  have tl := tab_len n n A
  have gA : ∀ i, i < n → (em eR (tab n n A))[i]? = some (eR (rowf n (A i))) := fun i hi => by
    have := em_getN (f := eR) (tab n n A) i (by rw [tab_len]; exact hi)
    rwa [tab_get hi] at this
  have gB : ∀ i, i < n → (em eR (tab n m B))[i]? = some (eR (rowf m (B i))) := fun i hi => by
    have := em_getN (f := eR) (tab n m B) i (by rw [tab_len]; exact hi)
    rwa [tab_get hi] at this
  have cc : ∀ i, CP (CL F) 82 [.lst (em eR [rowf n (A i), rowf m (B i)])] = some (eR (rowf (n + m) (bsd n A B i))) := fun i => by
    have := s_Concat (a := rowf n (A i)) (b := rowf m (B i)) (by rw [rowf_len]; omega) (by rw [rowf_len]; omega)
    rwa [rowf_app] at this
  have cl : ∀ i, i < n → ∃ r, CP (CL F) 45 [eR (rowf (n + m) (bsd n A B i))] = some (.tup [eRZ (rwg (n + m) (abz n (clz16 n m A B A) (clz16 n m A B B) i)), r]) := fun i hi => by
    have := s_Clear (l := rowf (n + m) (bsd n A B i)) (by rw [rowf_len]; omega) (K := K) (by omega) (fun q hq => by
      obtain ⟨y, hy, rfl⟩ := mem_rowf.1 hq
      exact hAB i hi y hy)
    rw [clz_row] at this
    exact ⟨_, this⟩
  have tk1 : ∀ i, List.take n (rwg (n + m) (abz n (clz16 n m A B A) (clz16 n m A B B) i)) = rwg n (clz16 n m A B A i) := fun i => by
    rw [rwg_take (by omega)]
    exact rwg_congr fun j hj => by unfold abz; rw [if_pos hj]
  have dp1 : ∀ i, List.drop n (rwg (n + m) (abz n (clz16 n m A B A) (clz16 n m A B B) i)) = rwg m (clz16 n m A B B i) := fun i => by
    rw [rwg_drop, show n + m - n = m by omega]
    exact rwg_congr fun j hj => by unfold abz; rw [if_neg (by omega), show n + j - n = j by omega]
  have ra := fun i => rowf_len n (A i)
  have ll1 := fun i => rwg_len (n + m) (abz n (clz16 n m A B A) (clz16 n m A B B) i)
  have lm1 := fun i => rwg_len m (clz16 n m A B B i)
  generalize clz16 n m A B A = ZA at *
  generalize clz16 n m A B B = ZB at *
  generalize tab n n A = TA at *
  generalize tab n m B = TB at *
  have sA := fun i => tbg_snoc i n ZA
  have sB := fun i => tbg_snoc i m ZB
  have fp : ∀ (a b : List Rat) (h : Heap), fzR (Go.AM.frz h 6) (some (some ⟨0, 1, [eR a, eR b]⟩)) 0 0 2 = some (.lst (em eR [a, b])) := fun a b h => em_fz6 (h := h) (v := 0) (off := 0) (len := 2) E_eR [a, b]
  have up : ∀ (a b : List Rat) (h : Heap) (i : Nat), usR (used h 6) (some (some ⟨0, 1, [eR a, eR b]⟩)) i 0 0 2 = [i] := fun a b h i => em_us6 (h := h) (id := i) (v := 0) (off := 0) (len := 2) E_eR [a, b]
  have g0 := gA 0 h0n
  have b0 := gB 0 h0n
  have c0 := cc 0
  obtain ⟨r0, e0⟩ := cl 0 h0n
  have hlt0 : ((0 : Int) < (n : Int)) := by omega
  have hw1 : wrap64 (0 + 1) = 1 := by rw [show (0 : Int) + 1 = 1 from rfl, w64 (by omega) (by omega)]
  have ra0 := ra 0
  have t0 := tk1 0
  have d0 := dp1 0
  have ll0 := ll1 0
  have lm0 := lm1 0
  have sub1 : ∀ i, sub (em eZ (rwg (n + m) (abz n ZA ZB i))) n (n + m - n) = em eZ (rwg m (ZB i)) := fun i => by
    rw [em_sub, dp1, show n + m - n = m by omega, List.take_of_length_le (by rw [lm1]; omega)]
  have sub2 : ∀ i, sub (em eZ (rwg (n + m) (abz n ZA ZB i))) 0 n = em eZ (rwg n (ZA i)) := fun i => by
    rw [em_sub, List.drop_zero, tk1]
  have le1 : (n : Int) ≤ ((n + m : Nat) : Int) := by omega
  refine CP_X (F := F) (f := 40) rfl rfl ?_
  generalize hZ : (fun i => rwg (n + m) (abz n ZA ZB i)) = ZR at *
  have hZ2 : ∀ i, rwg (n + m) (abz n ZA ZB i) = ZR i := fun i => by rw [← hZ]
  simp only [hZ2] at *
  clear hZ hZ2 hAB
  have fq : ∀ (a : List Int) (h : Heap), fzR (Go.AM.frz h 6) (some (some ⟨0, 1, [eRZ a]⟩)) 0 0 1 = some (.lst (em eRZ [a])) := fun a h => em_fz6 (h := h) (v := 0) (off := 0) (len := 1) E_eRZ [a]
  have e2 : n + m - n = m := by omega
  have tm : ∀ i, List.take m (rwg m (ZB i)) = rwg m (ZB i) := fun i => take_len_g _ (lm1 i).symm
  have fe : ∀ a : List Int, (em eRZ [a]).isEmpty = false := fun _ => rfl
  have fl : ∀ a : List Int, (em eRZ [a]).length = 1 := fun _ => rfl
  refine go3 ?_
  refine X_round ?_
  refine go3 ?_
  refine X_up n (fun i s => ∃ j9 j10 j11 j31 v w x g, s = ⟨[(0, eT TA), (1, eT TB), (4, .nil), (5, eI 0), (6, eI 0), (7, .ref 1 v 1 0 i), (8, .ref 2 w 1 0 i), (9, j9), (10, j10), (11, j11), (13, .undef), (14, .undef), (15, .undef), (16, .undef), (18, .undef), (19, .undef), (20, .undef), (21, .undef), (26, .bool false), (28, eT TA), (29, eI n), (30, eI i), (31, j31), (69, .undef), (71, .undef), (72, .undef), (73, .undef), (74, .undef), (80, .undef), (81, .undef), (82, .undef), (83, .undef)], x :: some ⟨v, 1, em eRZ (tbg i n ZA)⟩ :: some ⟨w, 1, em eRZ (tbg i m ZB)⟩ :: g⟩) ?_ ?_ 1 h0n _ ⟨_, _, _, _, _, _, _, _, rfl⟩
  · rintro i s hi ⟨j9, j10, j11, j31, v, w, x, g, rfl⟩ rec
    have hlt := lt_c hi
    have g1 := gA i hi
    have b1 := gB i hi
    have c1 := cc i
    obtain ⟨r1, e1⟩ := cl i hi
    have s1 := sA i
    have s2 := sB i
    have q1 := tk1 i
    have q2 := dp1 i
    have q3 := ra i
    have q4 := ll1 i
    have q5 := lm1 i
    have q6 := tm i
    have bl := tbg_len i n ZA
    have bt : List.take i (tbg i n ZA) = tbg i n ZA := take_len_g _ bl.symm
    have bl2 := tbg_len i m ZB
    have bt2 : List.take i (tbg i m ZB) = tbg i m ZB := take_len_g _ bl2.symm
    have hlim : i < 5864062014805 := by omega
    have hi6 : i < 9223372036854775807 := by omega
    generalize ZR i = Zi at *
    generalize rwg n (ZA i) = za at *
    generalize rwg m (ZB i) = zb at *
    generalize tbg i n ZA = T1 at *
    generalize tbg (i + 1) n ZA = T1' at *
    generalize tbg i m ZB = T2 at *
    generalize tbg (i + 1) m ZB = T2' at *
    generalize rowf n (A i) = rA at *
    generalize rowf m (B i) = rB at *
    have hw := i64_nat hi6
    clear gA gB cc cl sA sB tk1 dp1 ra ll1 lm1 tm sub1 sub2 g0 b0 c0 e0 ra0 t0 d0 ll0 lm0 k1 hs hx
    refine go3 ?_
    exact rec _ ⟨_, _, _, _, _, _, _, _, rfl⟩
  · rintro s ⟨j9, j10, j11, j31, v, w, x, g, rfl⟩
    have hlt : ¬ ((n : Int) < (n : Int)) := nlt_c
    have bl := tbg_len n n ZA
    have bt : List.take n (tbg n n ZA) = tbg n n ZA := take_len_g _ bl.symm
    have bl2 := tbg_len n m ZB
    have bt2 : List.take n (tbg n m ZB) = tbg n m ZB := take_len_g _ bl2.symm
    generalize tbg n n ZA = T1 at *
    generalize tbg n m ZB = T2 at *
    clear gA gB cc cl sA sB tk1 dp1 ra ll1 lm1 tm sub1 sub2 g0 b0 c0 e0 ra0 t0 d0 ll0 lm0 k1
    rcases hx with ⟨h1, rfl⟩ | ⟨rfl, N, d, hd, hdl, hN, rfl, he, rfl⟩
    · have h2 := eq_false h1
      have h3 := eq_true h1
      clear h1
      refine go3 ?_
      trivial
    · rw [he] at hs
      clear he
      have mk : ∀ i, i < n → ∀ j, j < m → CP (CL F) 70 [eZ (N i j), eZ d] = some (.tup [eQ (xsol N d i j), eI 0]) := fun i hi j hj => s_rat_Make hd (by have := hN i hi j hj; omega) (by omega)
      have gN : ∀ i, i < n → (em eRZ (tbg n m N))[i]? = some (eRZ (rwg m (N i))) := fun i hi => by
        have := em_getN (f := eRZ) (tbg n m N) i (by rw [tbg_len]; exact hi)
        rwa [tbg_get hi] at this
      have gn : ∀ i j, j < m → (em eZ (rwg m (N i)))[j]? = some (eZ (N i j)) := fun i j hj => by
        have := em_getN (f := eZ) (rwg m (N i)) j (by rw [rwg_len]; exact hj)
        rwa [rwg_get hj] at this
      have lN := tbg_len n m N
      have ln := fun i => rwg_len m (N i)
      generalize xsol N d = X at *
      generalize tbg n m N = TN at *
      clear hN hd hdl
      have nn : 0 < n := h0n
      refine go3 ?_
      refine X_up n (fun i s => ∃ j18 j19 j20 j21 j74 j80 j81 j82 j83 tx tail, ((i = 0 ∧ tx = .nil) ∨ ∃ v' g2 g3, tail = g2 ++ some ⟨v', 1, em eR (tab i m X)⟩ :: g3 ∧ tx = .ref (g.length + (g2.length + 1) + 1 + 1 + 1) v' 1 0 i) ∧ s = ⟨[(0, eT TA), (1, eT TB), (4, .nil), (5, eI 0), (6, eI 0), (7, .ref 1 v 1 0 n), (8, .ref 2 w 1 0 n), (9, j9), (10, j10), (11, j11), (13, eTZ TN), (14, .ptr (g.length + 1 + 1 + 1) 0 0 0), (15, eI 0), (16, tx), (18, j18), (19, j19), (20, j20), (21, j21), (26, .bool false), (28, eT TA), (29, eI n), (30, eI n), (31, .bool false), (69, .bool false), (71, eTZ TN), (72, eI n), (73, eI i), (74, j74), (80, j80), (81, j81), (82, j82), (83, j83)], x :: none :: none :: (g ++ (some ⟨0, 2, [eZ d]⟩ :: tail))⟩) ?_ ?_ 0 (Nat.zero_le _) _ ⟨_, _, _, _, _, _, _, _, _, _, [], .inl ⟨rfl, rfl⟩, rfl⟩
      · rintro i s hi ⟨j18, j19, j20, j21, j74, j80, j81, j82, j83, tx, tail, htx, rfl⟩ rec
        have hlt := lt_c hi
        have g1 := gN i hi
        have g2' := gn i
        have l1 := ln i
        have mk1 := mk i hi
        have lim1 : (m : Int) ≤ 5026338869833 := by omega
        have lim2 : m ≤ 5026338869833 := by omega
        have hi6 : i < 9223372036854775807 := by omega
        have rs : ∀ j, rowf j (X i) ++ [X i j] = rowf (j + 1) (X i) := fun j => by simp [rowf, List.range_succ]
        clear gN gn ln mk hs
        refine go3 ?_
        refine X_up m (fun j s => ∃ j20 j21 j83 g4, s = ⟨[(0, eT TA), (1, eT TB), (4, .nil), (5, eI 0), (6, eI 0), (7, .ref 1 v 1 0 n), (8, .ref 2 w 1 0 n), (9, j9), (10, j10), (11, j11), (13, eTZ TN), (14, .ptr (g.length + 1 + 1 + 1) 0 0 0), (15, eI 0), (16, tx), (18, eRZ (rwg m (N i))), (19, .ref (g.length + (tail.length + 1) + 1 + 1 + 1) 0 3 0 m), (20, j20), (21, j21), (26, .bool false), (28, eT TA), (29, eI n), (30, eI n), (31, .bool false), (69, .bool false), (71, eTZ TN), (72, eI n), (73, eI i), (74, .bool true), (80, eRZ (rwg m (N i))), (81, eI m), (82, eI j), (83, j83)], x :: none :: none :: (g ++ (some ⟨0, 2, [eZ d]⟩ :: (tail ++ (some ⟨0, 3, em eQ (rowf j (X i)) ++ List.replicate (m - j) zQ⟩ :: g4))))⟩) ?_ ?_ 0 (Nat.zero_le _) _ ⟨_, _, _, [], rfl⟩
        · rintro j s hj ⟨j20, j21, j83, g4, rfl⟩ rec2
          have hlt2 := lt_c hj
          have q1 := g2' j hj
          have q2 := mk1 j hj
          obtain ⟨dd, hd⟩ : ∃ dd, m - j = dd + 1 := ⟨m - j - 1, by omega⟩
          have hd2 : m - (j + 1) = dd := by omega
          rw [hd]
          rw [hd2] at rec2
          have fl' := rowf_len j (X i)
          have f1 := fill_get (f := eQ) (rowf j (X i)) dd zQ
          have f2 := fill_set (f := eQ) (rowf j (X i)) dd zQ (X i j)
          rw [fl'] at f1 f2
          rw [rs j] at f2
          have hj6 : j < 9223372036854775807 := by omega
          generalize rowf j (X i) = R at *
          generalize rowf (j + 1) (X i) = R' at *
          generalize X i j = xx at *
          have hw := i64_nat hj6
          clear g2' mk1 rs rec htx hd hd2 fl'
          refine go3 ?_
          exact rec2 _ ⟨_, _, _, _, rfl⟩
        · rintro s ⟨j20, j21, j83, g4, rfl⟩
          have hlt2 : ¬ ((m : Int) < (m : Int)) := nlt_c
          rw [Nat.sub_self, show List.replicate 0 zQ = [] from rfl, List.append_nil]
          have rl := rowf_len m (X i)
          have sb : sub (em eQ (rowf m (X i))) 0 m = em eQ (rowf m (X i)) := by
            have := sub_full (f := eQ) (rowf m (X i))
            rwa [rowf_len] at this
          have rt : List.take m (rowf m (X i)) = rowf m (X i) := take_len_g _ rl.symm
          have sT : tab i m X ++ [rowf m (X i)] = tab (i + 1) m X := by simp [tab, List.range_succ]
          have bl3 := tab_len i m X
          have bt3 : List.take i (tab i m X) = tab i m X := take_len_g _ bl3.symm
          have hlim : i < 5864062014805 := by omega
          have h00 : i = 0 → [eR (rowf m (X i))] = em eR (tab (i + 1) m X) := fun h => by subst h; rfl
          generalize rowf m (X i) = R at *
          generalize tab i m X = T3 at *
          generalize tab (i + 1) m X = T4 at *
          rcases htx with ⟨hi0, rfl⟩ | ⟨v', g2, g3, rfl, rfl⟩
          · have h01 := eq_true (h00 hi0)
            replace hi0 := eq_true hi0
            have hw := i64_nat hi6
            clear g2' mk1 rs h00 sT bt3 bl3
            refine go3 ?_
            obtain rfl := of_eq_true hi0
            have e3 : em eR T4 = [AV.lst (em eQ R)] := (of_eq_true h01).symm
            refine rec _ ⟨_, _, _, _, _, _, _, _, _, _, _, .inr ⟨0, tail ++ none :: (g4 ++ [some ⟨0, 1, [AV.lst (em eQ R)]⟩]), [], ?_, ?_⟩, rfl⟩
            · rw [e3]; simp
            · simp
          · have hw := i64_nat hi6
            clear g2' mk1 rs h00
            refine go3 ?_
            exact rec _ ⟨_, _, _, _, _, _, _, _, _, _, _, .inr ⟨v' + 1, g2, _, rfl, rfl⟩, rfl⟩
      · rintro s ⟨j18, j19, j20, j21, j74, j80, j81, j82, j83, tx, tail, htx, rfl⟩
        have hlt : ¬ ((n : Int) < (n : Int)) := nlt_c
        have bl3 := tab_len n m X
        have bt3 : List.take n (tab n m X) = tab n m X := take_len_g _ bl3.symm
        generalize tab n m X = T3 at *
        rcases htx with ⟨hi0, rfl⟩ | ⟨v', g2, g3, rfl, rfl⟩
        · omega
        · clear gN gn mk ln hs
          refine go3 ?_
          trivial
end Go.S

end
section
set_option linter.unusedVariables false
set_option linter.unusedSimpArgs false
set_option maxRecDepth 100000
namespace Go.S
open Go Go.AM Go.RowKit Go.K
theorem L_sgz (b : Bool) (z : Int) : L (sgz b * z) = L z := by
  unfold sgz
  cases b
  · simp
  · have : (if true = true then (-1 : Int) else 1) * z = -z := by simp
    rw [this, L_neg]
theorem rowM_pos (n m : Nat) (A B : Mt) (i : Nat) : 0 < rowM n m A B i := lcs_pos _ 1 (by decide)
theorem rowM_dvd {n m : Nat} {A B : Mt} {i j : Nat} (hj : j < n + m) : (bsd n A B i j).den ∣ rowM n m A B i := (lcs_dvd _ 1).2 _ (mem_rowf.2 ⟨j, hj, rfl⟩)
theorem rowM_L {n m : Nat} {A B : Mt} {i : Nat} (hi : i < n) (h : ∀ r, r < n → ∀ y, y < n + m → Lq (bsd n A B r y) ≤ 1) : L ((rowM n m A B i : Nat) : Int) ≤ 1 + (n + m) := by
  have := lcs_L (K := 1) (rowf (n + m) (bsd n A B i)) 1 (by decide) fun q hq => by
    obtain ⟨y, hy, rfl⟩ := mem_rowf.1 hq
    exact h i hi y hy
  rw [rowf_len] at this
  have h1 : L ((1 : Nat) : Int) ≤ 1 := L_one
  unfold rowM
  omega
theorem natq {n : Nat} (h : 0 < n) : ((n : Int) : Rat) ≠ 0 := fun e => by
  have := zinj (a := (n : Int)) (b := 0) e
  omega
theorem exact_out {n m : Nat} {A B : Mt} (h0n : 0 < n) (hn : n ≤ 5) (hm : m ≤ 5) (hAB : ∀ r, r < n → ∀ y, y < n + m → Lq (bsd n A B r y) ≤ 1) :
    ((grun n A n).2.1.length < n ∧ CP (CL F) 40 [eT (tab n n A), eT (tab n m B)] = some (.tup [.lst [], eI 7])) ∨
    ((grun n A n).2.1.length = n ∧ ∃ X : Mt, (∀ j, j < m → ∀ l, l < n → sm n (fun k => A l k * X k j) = B l j) ∧ (∀ i, i < n → ∀ j, j < m → Lq (X i j) ≤ 448) ∧
      CP (CL F) 40 [eT (tab n n A), eT (tab n m B)] = some (.tup [eT (tab n m X), eI 0])) := by
  have hA : ∀ i, i < n → ∀ j, j < n → ((clz16 n m A B A i j : Int) : Rat) = A i j * ((rowM n m A B i : Int) : Rat) := fun i hi j hj => by
    have := rowM_dvd (n := n) (m := m) (A := A) (B := B) (i := i) (j := j) (by omega)
    rw [show bsd n A B i j = A i j from if_pos hj] at this
    exact clr_cast this
  have hB : ∀ i, i < n → ∀ j, j < m → ((clz16 n m A B B i j : Int) : Rat) = B i j * ((rowM n m A B i : Int) : Rat) := fun i hi j hj => by
    have := rowM_dvd (n := n) (m := m) (A := A) (B := B) (i := i) (j := n + j) (by omega)
    rw [show bsd n A B i (n + j) = B i j from by unfold bsd; rw [if_neg (by omega), show n + j - n = j by omega]] at this
    exact clr_cast this
  have lA : ∀ i, i < n → ∀ j, j < n → L (clz16 n m A B A i j) ≤ 12 := fun i hi j hj => by
    have h1 := rowM_dvd (n := n) (m := m) (A := A) (B := B) (i := i) (j := j) (by omega)
    have h2 := hAB i hi j (by omega)
    rw [show bsd n A B i j = A i j from if_pos hj] at h1 h2
    have h3 := clr_L h1 (rowM_pos n m A B i)
    have h4 := rowM_L hi hAB
    have h5 := Lq_num (A i j)
    show L (clr (rowM n m A B i) (A i j)) ≤ 12
    omega
  have lB : ∀ i, i < n → ∀ j, j < m → L (clz16 n m A B B i j) ≤ 12 := fun i hi j hj => by
    have h1 := rowM_dvd (n := n) (m := m) (A := A) (B := B) (i := i) (j := n + j) (by omega)
    have h2 := hAB i hi (n + j) (by omega)
    rw [show bsd n A B i (n + j) = B i j from by unfold bsd; rw [if_neg (by omega), show n + j - n = j by omega]] at h1 h2
    have h3 := clr_L h1 (rowM_pos n m A B i)
    have h4 := rowM_L hi hAB
    have h5 := Lq_num (B i j)
    show L (clr (rowM n m A B i) (B i j)) ≤ 12
    omega
  have hpow : 2 ^ n * (12 + 2) ≤ 448 := by
    have : 2 ^ n ≤ 2 ^ 5 := Nat.pow_le_pow_right (by decide) hn
    omega
  have hs := s_bSolve (n := n) (m := m) (K := 12) (A := clz16 n m A B A) (B := clz16 n m A B B) h0n (by omega) (by omega) lA lB (by omega)
  have hdet : zdet n (clz16 n m A B A) = 0 ↔ (grun n A n).2.1.length < n := by
    have e1 : det n (zq (clz16 n m A B A)) = det n fun i j => A i j * ((rowM n m A B i : Int) : Rat) := det_congr fun i j hi hj => hA i hi j hj
    rw [← gdet_zero, ← det_gdet, ← det_rows (A := A) (M := fun i => ((rowM n m A B i : Int) : Rat)) fun i => natq (rowM_pos n m A B i), ← e1, ← zdet_cast]
    exact ⟨fun h => by rw [h]; rfl, fun h => zinj h⟩
  have hc : zdet n (abz n (clz16 n m A B A) (clz16 n m A B B)) = zdet n (clz16 n m A B A) := zdet_congr fun i c hi hc => by unfold abz; rw [if_pos hc]
  unfold bsol at hs
  cases hz : zrun n (abz n (clz16 n m A B A) (clz16 n m A B B)) n with
  | none =>
    rw [hz] at hs
    have h1 := zrun_none hz
    rw [hc] at h1
    refine .inl ⟨hdet.1 h1, ?_⟩
    exact s_sExact (Xo := []) h0n (by omega) (by omega) (K := 1) (by omega) hAB hs (.inl ⟨by decide, rfl⟩)
  | some s =>
    rw [hz] at hs
    obtain ⟨d1, d2⟩ := zrun_det hz
    rw [hc] at d1 d2
    have hfull : (grun n A n).2.1.length = n := by
      have h1 := (grun_RR n A n).le
      have h2 : ¬ ((grun n A n).2.1.length < n) := fun h => d2 (hdet.2 h)
      omega
    obtain ⟨z1, z2⟩ := zrun_size (n := n) (c := n + m) (K := 12) (A := abz n (clz16 n m A B A) (clz16 n m A B B)) (by omega) (fun i hi j hj => by
      unfold abz
      split
      · next h => exact lA i hi j h
      · exact lB i hi _ (by omega)) (Nat.le_refl n) hz
    have hd : sgz s.neg * s.pv ≠ 0 := by rw [← d1]; exact d2
    have hN : ∀ i, i < n → ∀ j, j < m → L (sgz s.neg * s.Z i (n + j)) ≤ 447 := fun i hi j hj => by
      rw [L_sgz]
      have := z1 i hi (n + j) (by omega)
      omega
    have hdl : L (sgz s.neg * s.pv) ≤ 447 := by rw [L_sgz]; omega
    refine .inr ⟨hfull, xsol (fun i j => sgz s.neg * s.Z i (n + j)) (sgz s.neg * s.pv), fun j hj l hl => ?_, fun i hi j hj => ?_, ?_⟩
    · have sv := zrun_solves hz hl (n + j)
      have sv2 : ((zsm n (fun i => abz n (clz16 n m A B A) (clz16 n m A B B) l i * (sgz s.neg * s.Z i (n + j))) : Int) : Rat) = ((abz n (clz16 n m A B A) (clz16 n m A B B) l (n + j) * (sgz s.neg * s.pv) : Int) : Rat) := by rw [sv]
      rw [zsm_cast, Rat.intCast_mul, show abz n (clz16 n m A B A) (clz16 n m A B B) l (n + j) = clz16 n m A B B l j from by unfold abz; rw [if_neg (by omega), show n + j - n = j by omega], hB l hl j hj] at sv2
      have hdq : ((sgz s.neg * s.pv : Int) : Rat) ≠ 0 := fun e => hd (zinj (b := 0) e)
      have hMq := natq (rowM_pos n m A B l)
      have e1 : sm n (fun i => ((abz n (clz16 n m A B A) (clz16 n m A B B) l i * (sgz s.neg * s.Z i (n + j)) : Int) : Rat)) = (((rowM n m A B l : Int) : Rat) * ((sgz s.neg * s.pv : Int) : Rat)) * sm n (fun k => A l k * xsol (fun i j => sgz s.neg * s.Z i (n + j)) (sgz s.neg * s.pv) k j) := by
        rw [← sm_mul]
        refine sm_congr fun k hk => ?_
        rw [Rat.intCast_mul, show abz n (clz16 n m A B A) (clz16 n m A B B) l k = clz16 n m A B A l k from by unfold abz; rw [if_pos hk], hA l hl k hk]
        unfold xsol
        rw [Rat.divInt_eq_div]
        generalize ((sgz s.neg * s.pv : Int) : Rat) = D at *
        generalize ((sgz s.neg * s.Z k (n + j) : Int) : Rat) = N at *
        generalize ((rowM n m A B l : Int) : Rat) = M at *
        grind
      rw [e1] at sv2
      generalize sm n (fun k => A l k * xsol (fun i j => sgz s.neg * s.Z i (n + j)) (sgz s.neg * s.pv) k j) = S at *
      generalize ((sgz s.neg * s.pv : Int) : Rat) = D at *
      generalize ((rowM n m A B l : Int) : Rat) = M at *
      grind
    · have h1 := Lq_divInt (p := sgz s.neg * s.Z i (n + j)) (d := sgz s.neg * s.pv) hd
      have h2 := hN i hi j hj
      show Lq (Rat.divInt (sgz s.neg * s.Z i (n + j)) (sgz s.neg * s.pv)) ≤ 448
      omega
    · exact s_sExact h0n (by omega) (by omega) (K := 1) (by omega) hAB hs (.inr ⟨rfl, _, _, hd, by omega, fun i hi j hj => by have := hN i hi j hj; omega, rfl, rfl, rfl⟩)
set_option maxHeartbeats 4000000
end Go.S

end
section
set_option linter.unusedVariables false
set_option linter.unusedSimpArgs false
set_option maxRecDepth 100000
namespace Go.S
open Go Go.AM Go.RowKit Go.K
theorem freeP_count (n : Nat) (A : Mt) : ∀ j, (freeP (grun n A j).2.1 j).length + (grun n A j).2.1.length = j := by
  intro j
  induction j with
  | zero => rfl
  | succ j ih =>
    have R := grun_RR n A j
    have hlt : ∀ x ∈ (grun n A j).2.1, x < j := fun x hx => by
      obtain ⟨i, hi, rfl⟩ := List.getElem_of_mem hx
      have := R.lt i hi
      rwa [List.getD, List.getElem?_eq_getElem hi] at this
    have hs : (grun n A (j + 1)).2.1 = (grun n A j).2.1 ∨ (grun n A (j + 1)).2.1 = (grun n A j).2.1 ++ [j] := by
      show (gstep n j (grun n A j)).2.1 = _ ∨ (gstep n j (grun n A j)).2.1 = _
      generalize grun n A j = s
      obtain ⟨E, piv, q⟩ := s
      have hg : gstep n j (E, piv, q) = if fnd n E j piv.length = n then (E, piv, q) else (elimTo (pivR E piv.length (fnd n E j piv.length) j) piv.length j n, piv ++ [j], (if piv.length = fnd n E j piv.length then q else -q) * E (fnd n E j piv.length) j) := rfl
      rw [hg]
      split
      · exact .inl rfl
      · exact .inr rfl
    generalize (grun n A j).2.1 = piv at *
    rcases hs with e | e
    · rw [e, freeP_succ, if_neg fun h => Nat.lt_irrefl j (hlt j h), List.length_append, List.length_singleton]
      omega
    · rw [e, freeP_succ, if_pos (by simp), List.length_append, List.length_singleton]
      have : freeP (piv ++ [j]) j = freeP piv j := List.filter_congr fun x hx => by
        have := List.mem_range.1 hx
        rw [Bool.eq_iff_iff]
        simp only [decide_eq_true_eq, List.mem_append, List.mem_singleton]
        constructor
        · exact fun h h2 => h (.inl h2)
        · rintro h (h2 | h2)
          · exact h h2
          · omega
      rw [this]
      omega
set_option maxHeartbeats 4000000
theorem law_SolveSolved {t : List (List XQ)} (ht : ∀ l ∈ t, ∀ x ∈ l, x.ok) {u' : List (List XQ)} (hu : ∀ l ∈ u', ∀ x ∈ l, x.ok) : CP (CL F) 10 [.lst (em eXL t), .lst (em eXL u')] = some (.bool true) := by
  refine CP_X (F := F) (f := 10) rfl rfl ?_
  obtain ⟨p, p1, p2, p3⟩ := s_Even ht (most := 5) (by decide)
  replace p3 : CP (CL F) 20 [.lst (em eXL t), eI 5] = some (.tup [eT p, rT p]) := p3
  obtain ⟨q, q1, q2, q3⟩ := s_Even hu (most := 5) (by decide)
  replace q3 : CP (CL F) 20 [.lst (em eXL u'), eI 5] = some (.tup [eT q, rT q]) := q3
  have wp : ∀ l : List (List Rat), (∀ r ∈ l, r.length = wide l ∧ r.length ≤ 5 ∧ ∀ x ∈ r, Lq x ≤ 1) → wide l ≤ 5 := fun l h => by
    cases l with
    | nil => simp [wide]
    | cons r l => have := h r (List.mem_cons_self ..); omega
  have w1 := wp p p2
  have w2 := wp q q2
  have m1 : may p = true := may_iff.2 ⟨by omega, by omega, fun r hr => (p2 r hr).1⟩
  have m2 : may q = true := may_iff.2 ⟨by omega, by omega, fun r hr => (q2 r hr).1⟩
  have k1 := s_Size p
  have w := s_works16
  clear wp
  by_cases hwd : p.length = wide p
  · by_cases hl : q.length = p.length
    · have hs2 : shp16 p q false = true := shp16_iff.2 ⟨m1, m2, hl, fun h => by cases h⟩
      have c0 := eq_true (show ((q.length : Int) = (p.length : Int)) by omega)
      rcases Nat.eq_zero_or_pos p.length with e | e
      · have ea := List.eq_nil_of_length_eq_zero e
        have eb := List.eq_nil_of_length_eq_zero (show q.length = 0 by omega)
        subst ea
        subst eb
        have y1 := s_sExact0
        change CP (CL F) _ [eT [], eT []] = _ at y1
        have gb : GB 0 0 1 (fun _ _ => 0) := GB_le (Nat.le_refl 1) (fun r hr => by omega) (by decide)
        have gb2 : GB 0 (0 + 0) 1 (bsd 0 (fun _ _ => 0) (fun _ _ => 0)) := GB_le (Nat.le_refl 1) (fun r hr => by omega) (by decide)
        have y2 : CP (CL F) 53 [eT [], eT []] = some (.tup [.agg [eI 0, .lst [], .bool false], eI 0]) := s_Why (n := 0) (c := 0) (m := 0) (M := 1) (A := fun _ _ => 0) (B := fun _ _ => 0) (by omega) (by omega) (by omega) (fun _ => ⟨rfl, rfl⟩) (by decide) gb gb2
        have y3 : CP (CL F) 23 [.lst [eT [], .lst []]] = some (.tup [.lst [], eI 0]) := (s_Mul2' (A := fun _ _ => 0) (B := fun _ _ => 0) (n := 0) (m := 0) (k := 0) (by omega) (by omega) (by omega) (fun h => h) (fun h => h) (M := 1) (by decide) (fun r hr => by cases hr) (fun r hr => by cases hr)).1
        have fp : ∀ h : Heap, fzR (Go.AM.frz h 6) (some (some ⟨0, 1, [eT [], .lst []]⟩)) 0 0 2 = some (.lst [eT [], .lst []]) := fun h => em_fz6 (h := h) (v := 0) (off := 0) (len := 2) E_eT [[], []]
        have up : ∀ (h : Heap) (i : Nat), usR (used h 6) (some (some ⟨0, 1, [eT [], .lst []]⟩)) i 0 0 2 = [i] := fun h i => em_us6 (h := h) (id := i) (v := 0) (off := 0) (len := 2) E_eT [[], []]
        have h00 : wrap64 (0 + 0) = 0 := by rw [show (0 : Int) + 0 = 0 from rfl, w64 (by omega) (by omega)]
        have z2 : wide ([] : List (List Rat)) = 0 := rfl
        rw [z2] at k1
        clear hs2 m1 m2 hl hwd p1 p2 q1 q2 ht hu e z2 w1 w2 gb gb2
        refine go3 ?_
        trivial
      · have I := In16.mk' hs2 (fun r hr => (p2 r hr).2.2) (fun r hr => (q2 r hr).2.2)
        rw [← hwd] at I
        rw [← hwd] at k1
        have hAB := I.hAB
        generalize ent p = A at *
        generalize ent q = B at *
        generalize hn : p.length = n at *
        generalize wide q = m at *
        have hpow : 1 * 5 ^ n ≤ 3125 := by
          have : 5 ^ n ≤ 5 ^ 5 := Nat.pow_le_pow_right (by decide) p1
          omega
        have y2 := s_Why (n := n) (c := n) (m := m) (A := A) (B := B) (by omega) (by omega) (by omega) I.h0 (M := 3125) (by decide) (GB_le (Nat.le_refl 1) I.hA hpow) (GB_le (Nat.le_refl 1) hAB hpow)
        rw [← I.hp, ← I.hq] at y2
        have fc := freeP_count n A n
        have r2 := (grun_RR n (bsd n A B) (n + m)).le
        have hfl : (ivl (freeP (grun n A n).2.1 n)).length + (grun n A n).2.1.length = n := by rw [ivl_len]; exact fc
        rcases exact_out (n := n) (m := m) (A := A) (B := B) e (by omega) (by omega) hAB with ⟨hr, y1⟩ | ⟨hr, X, hX, hXs, y1⟩
        · rw [← I.hp, ← I.hq] at y1
          generalize decide ((grun n A n).2.1.length < (grun n (bsd n A B) (n + m)).2.1.length) = cl at *
          generalize ivl (freeP (grun n A n).2.1 n) = f at *
          generalize (grun n A n).2.1.length = r at *
          have c1 := eq_false (show ¬ ((f.length : Int) = 0) by omega)
          have ws : wrap64 ((r : Int) + (f.length : Int)) = (n : Int) := by rw [w64 (by omega) (by omega)]; omega
          have ff : (false == false) = true := rfl
          clear hs2 m1 m2 hl hwd p2 q2 ht hu I hAB hpow fc r2 hfl hr w1 w2 e p1 q1
          refine go3 ?_
          trivial
        · rw [← I.hp, ← I.hq] at y1
          have sA : Sz 448 (tab n n A) := fun r hr q hq => by
            obtain ⟨i, hi, j, hj, rfl⟩ := mem_tab2 hr hq
            have := I.hA i hi j hj
            omega
          have sX : Sz 448 (tab n m X) := fun r hr q hq => by
            obtain ⟨i, hi, j, hj, rfl⟩ := mem_tab2 hr hq
            exact hXs i hi j hj
          have mu := (s_Mul2' (A := A) (B := X) (n := n) (m := n) (k := m) (by omega) (by omega) (by omega) (fun h => h) (fun h => by omega) (M := 448) (by decide) sA sX).1
          rw [show tab n m (mm n A X) = tab n m B from tab_congr fun i hi j hj => hX j hj i hi, ← I.hp, ← I.hq] at mu
          have s1 := s_mSame (a := q) (b := q) (by omega) fun r hr => ⟨by have := (q2 r hr).2.1; omega, fun x hx => by have := (q2 r hr).2.2 x hx; omega⟩
          rw [decide_eq_true rfl] at s1
          have fp : ∀ (a b : List (List Rat)) (h : Heap), fzR (Go.AM.frz h 6) (some (some ⟨0, 1, [eT a, eT b]⟩)) 0 0 2 = some (.lst (em eT [a, b])) := fun a b h => em_fz6 (h := h) (v := 0) (off := 0) (len := 2) E_eT [a, b]
          have up : ∀ (a b : List (List Rat)) (h : Heap) (i : Nat), usR (used h 6) (some (some ⟨0, 1, [eT a, eT b]⟩)) i 0 0 2 = [i] := fun a b h i => em_us6 (h := h) (id := i) (v := 0) (off := 0) (len := 2) E_eT [a, b]
          have hcl : decide ((grun n A n).2.1.length < (grun n (bsd n A B) (n + m)).2.1.length) = false := decide_eq_false (by omega)
          rw [hcl] at y2
          have hf0 : ivl (freeP (grun n A n).2.1 n) = [] := List.eq_nil_of_length_eq_zero (by omega)
          rw [hf0, hr] at y2
          have c2 := eq_false (show ¬ ((n : Int) = 0) by omega)
          have ws' : ∀ z : Int, z = 0 → wrap64 ((n : Int) + z) = (n : Int) := fun z hz => by rw [w64 (by omega) (by omega)]; omega
          have ws := ws' 0 rfl
          clear ws'
          have tt : (true == true) = true := rfl
          generalize tab n m X = TX at *
          clear hs2 m1 m2 hl hwd p2 q2 ht hu I hAB hpow fc r2 hfl hr w1 w2 e p1 q1 hX hXs sA sX hcl hf0
          refine go3 ?_
          trivial
    · have c0 := eq_false (show ¬ ((q.length : Int) = (p.length : Int)) by omega)
      have c1 := eq_true (show ((p.length : Int) = (wide p : Int)) by omega)
      clear hl hwd p1 p2 q1 q2 ht hu w1 w2 m1 m2
      refine go3 ?_
      trivial
  · have c1 := eq_false (show ¬ ((p.length : Int) = (wide p : Int)) by omega)
    clear hwd p1 p2 q1 q2 ht hu w1 w2 m1 m2
    refine go3 ?_
    trivial
end Go.S

end
