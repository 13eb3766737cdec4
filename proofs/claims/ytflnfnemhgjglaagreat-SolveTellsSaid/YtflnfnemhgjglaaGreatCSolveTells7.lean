/- A part of the proof of the law SolveTells: an abstract machine for the functions' code with its soundness, words, lemmas (assembled by a program). -/
import Derived.Test.YtflnfnemhgjglaaGreatCSolveTells6
set_option linter.unusedVariables false
set_option linter.unusedSimpArgs false
set_option linter.unusedSectionVars false
section
set_option linter.unusedVariables false
set_option linter.unusedSimpArgs false
set_option maxRecDepth 100000
namespace Go.S
open Go Go.AM Go.RowKit Go.K
def lcs (m : Nat) (l : List Rat) : Nat := l.foldl (fun m q => Nat.lcm m q.den) m
theorem yzh (m : Nat) (l : List Rat) (q : Rat) : lcs m (l ++ [q]) = Nat.lcm (lcs m l) q.den := by unfold lcs; rw [List.foldl_append]; rfl
theorem yvj : ∀ (l : List Rat) (m : Nat), m ∣ lcs m l ∧ ∀ q ∈ l, q.den ∣ lcs m l := by
  intro l
  induction l with
  | nil => intro m; exact ⟨Nat.dvd_refl m, fun q hq => by cases hq⟩
  | cons x l ih =>
    intro m
    obtain ⟨h1, h2⟩ := ih (Nat.lcm m x.den)
    refine ⟨Nat.dvd_trans (Nat.dvd_lcm_left m x.den) h1, fun q hq => ?_⟩
    rcases List.mem_cons.1 hq with rfl | hq
    · exact Nat.dvd_trans (Nat.dvd_lcm_right m q.den) h1
    · exact h2 q hq
theorem yov : ∀ (l : List Rat) (m : Nat), 0 < m → 0 < lcs m l := by
  intro l
  induction l with
  | nil => intro m h; exact h
  | cons x l ih => intro m h; exact ih _ (Nat.lcm_pos h x.den_pos)
theorem y5r (m n : Nat) (h : 0 < m) : Nat.lcm m n = m / Nat.gcd m n * n := by
  have hg : 0 < Nat.gcd m n := Nat.gcd_pos_of_pos_left n h
  refine Nat.eq_of_mul_eq_mul_left hg ?_
  rw [Nat.gcd_mul_lcm, ← Nat.mul_assoc, Nat.mul_div_cancel' (Nat.gcd_dvd_left m n)]
theorem L_nle {m n : Nat} (h : m ≤ n) : L (m : Int) ≤ L (n : Int) := yxw (by unfold ab; omega)
theorem L_lcm (m n : Nat) (hm : 0 < m) (hn : 0 < n) : L ((Nat.lcm m n : Nat) : Int) ≤ L (m : Int) + L (n : Int) := by
  have h1 : Nat.lcm m n ≤ m * n := Nat.le_of_dvd (Nat.mul_pos hm hn) (Nat.lcm_dvd_mul m n)
  have h2 := L_nle h1
  have h3 := L_mul (m : Int) (n : Int)
  rw [Int.natCast_mul] at h2
  omega
theorem lcs_L {K : Nat} : ∀ (l : List Rat) (m : Nat), 0 < m → (∀ q ∈ l, Lq q ≤ K) → L ((lcs m l : Nat) : Int) ≤ L (m : Int) + l.length * K := by
  intro l
  induction l with
  | nil => intro m _ _; show L (m : Int) ≤ _; omega
  | cons x l ih =>
    intro m hm h
    have h1 := ih (Nat.lcm m x.den) (Nat.lcm_pos hm x.den_pos) fun q hq => h q (List.mem_cons_of_mem _ hq)
    have h2 := L_lcm m x.den hm x.den_pos
    have h3 := yb2 x
    have h4 := h x (List.mem_cons_self ..)
    show L ((lcs (Nat.lcm m x.den) l : Nat) : Int) ≤ _
    rw [List.length_cons, Nat.add_mul]
    omega
def clr (M : Nat) (q : Rat) : Int := q.num * ((M / q.den : Nat) : Int)
theorem yrc {M : Nat} {q : Rat} (h : q.den ∣ M) : ((clr M q : Int) : Rat) = q * ((M : Int) : Rat) := by
  obtain ⟨k, rfl⟩ := h
  unfold clr
  rw [Nat.mul_div_cancel_left k q.den_pos, Rat.intCast_mul, Int.natCast_mul, Rat.intCast_mul]
  have e : ((q.num : Int) : Rat) = q * ((q.den : Int) : Rat) := by
    have hd : ((q.den : Int) : Rat) ≠ 0 := by
      intro h
      have := q.den_pos
      have h2 : (q.den : Int) = 0 := zinj (b := 0) h
      omega
    have h3 : Rat.divInt q.num q.den = q := Rat.num_divInt_den q
    rw [Rat.divInt_eq_div] at h3
    grind
  rw [e]
  grind
theorem clr_L {M : Nat} {q : Rat} (h : q.den ∣ M) (hM : 0 < M) : L (clr M q) ≤ L q.num + L (M : Int) := by
  have h1 := L_mul q.num ((M / q.den : Nat) : Int)
  have h2 := L_nle (Nat.div_le_self M q.den)
  unfold clr
  omega
theorem yys {m n : Nat} (h1 : L (m : Int) < 1000000000) (h2 : L (n : Int) < 1000000000) : CP (CL F) 140 [eN m, eN n] = some (eN (Nat.gcd m n : Nat)) :=
  ev_cp (ynj (m := m) (n := n) (by rw [L_nat (by omega)]; exact h1) (by rw [L_nat (by omega)]; exact h2)) fun _ h => yhc h
theorem ymz {x y : Int} (hx : 0 ≤ x) (hy : 0 ≤ y) (h1 : L x < 500000000) (h2 : L y < 500000000) : CP (CL F) 97 [eN x, eN y] = some (eN (x * y)) :=
  ev_cp (y0v hx hy (by rw [L_nat hx]; exact h1) (by rw [L_nat hy]; exact h2)) fun _ h => ynn h
theorem s_Lcm {m n : Nat} (hm : 0 < m) (h1 : L (m : Int) < 100000000) (h2 : L (n : Int) < 100000000) : CP (CL F) 94 [eN m, eN n] = some (eN (Nat.lcm m n : Nat)) := by
  refine CP_X (F := F) (f := 94) rfl rfl ?_
  have hg : 0 < Nat.gcd m n := Nat.gcd_pos_of_pos_left n hm
  have k1 := yys (m := m) (n := n) (by omega) (by omega)
  have k2 := ydd (x := m) (y := (Nat.gcd m n : Nat)) (q := (m / Nat.gcd m n : Nat)) (by omega) (by omega) (by rw [← Int.natCast_mul, Nat.mul_div_cancel' (Nat.gcd_dvd_left m n)]) (by omega) (by have := L_nle (Nat.gcd_le_left n hm); omega)
  have k3 := ymz (x := (m / Nat.gcd m n : Nat)) (y := (n : Int)) (Int.natCast_nonneg _) (Int.natCast_nonneg _) (by have := L_nle (Nat.div_le_self m (Nat.gcd m n)); omega) (by omega)
  rw [← Int.natCast_mul, ← y5r m n hm] at k3
  clear hg h1 h2 hm
  refine go3 ?_
  trivial
theorem y4o (z : Int) (k : Nat) : sg (decide (z < 0)) (ab z * (k : Int)) = z * (k : Int) := by
  unfold sg
  by_cases h : z < 0
  · rw [decide_eq_true h, if_pos rfl, yxm h, Int.neg_mul, Int.neg_neg]
  · rw [decide_eq_false h, if_neg (by decide), ya2 (by omega)]
theorem y19 {l : List Rat} (hl : l.length ≤ 1000) {K : Nat} (hK : K ≤ 10000) (h : ∀ q ∈ l, Lq q ≤ K) : CP (CL F) 45 [eR l] = some (.tup [eRZ (l.map (clr (lcs 1 l))), eN (lcs 1 l : Nat)]) := by
  refine CP_X (F := F) (f := 45) rfl rfl ?_
  have one := yp9 (x := 1) (by decide) (by decide)
  replace one : CP (CL F) 93 [.int .u64 1] = some (eN (lcs 1 (l.take 0) : Nat)) := one
  have hLm : ∀ i, L ((lcs 1 (l.take i) : Nat) : Int) ≤ 1 + 10000000 := fun i => by
    have h1 := lcs_L (K := K) (l.take i) 1 (by decide) fun q hq => h q (List.mem_of_mem_take hq)
    have h2 : (l.take i).length * K ≤ 1000 * 10000 := Nat.mul_le_mul (by rw [List.length_take]; omega) hK
    have h3 : L ((1 : Nat) : Int) ≤ 1 := L_one
    omega
  have lc : ∀ i, i < l.length → CP (CL F) 94 [eN (lcs 1 (l.take i) : Nat), eN ((l.getD i default).den : Int)] = some (eN (lcs 1 (l.take (i + 1)) : Nat)) := fun i hi => by
    have := s_Lcm (m := lcs 1 (l.take i)) (n := (l.getD i default).den) (yov _ 1 (by decide)) (by have := hLm i; omega) (by have := h _ (yar hi); have := yb2 (l.getD i default); omega)
    rw [yak l i hi, yzh]
    exact this
  have hM := hLm l.length
  rw [List.take_length] at hM
  have hdv := (yvj l 1).2
  have hMp := yov l 1 (by decide)
  have g : ∀ i, i < l.length → (em eQ l)[i]? = some (eQ (l.getD i default)) := fun i hi => yah l i hi
  have hfin : lcs 1 (l.take l.length) = lcs 1 l := by rw [List.take_length]
  generalize lcs 1 l = M at *
  have dv : ∀ i, i < l.length → CP (CL F) 95 [eN (M : Int), eN ((l.getD i default).den : Int)] = some (.tup [eN (M / (l.getD i default).den : Nat), eI 0]) := fun i hi => by
    refine ydd (by omega) (by have := (l.getD i default).den_pos; omega) ?_ (by omega) (by have := h _ (yar hi); have := yb2 (l.getD i default); omega)
    rw [← Int.natCast_mul, Nat.mul_div_cancel' (hdv _ (yar hi))]
  have ml : ∀ i, i < l.length → CP (CL F) 97 [eN (ab (l.getD i default).num), eN (M / (l.getD i default).den : Nat)] = some (eN (ab (l.getD i default).num * (M / (l.getD i default).den : Nat))) := fun i hi =>
    ymz (yaf _) (Int.natCast_nonneg _) (by rw [L_ab]; have := h _ (yar hi); have := ybz (l.getD i default); omega) (by have := L_nle (Nat.div_le_self M (l.getD i default).den); omega)
  have md : ∀ i, i < l.length → CP (CL F) 96 [.bool (decide ((l.getD i default).num < 0)), eN (ab (l.getD i default).num * (M / (l.getD i default).den : Nat))] = some (eZ (clr M (l.getD i default))) := fun i hi => by
    have := yd9 (decide ((l.getD i default).num < 0)) (n := ab (l.getD i default).num * (M / (l.getD i default).den : Nat)) (Int.mul_nonneg (yaf _) (Int.natCast_nonneg _)) (by
      have h1 := L_mul (ab (l.getD i default).num) ((M / (l.getD i default).den : Nat) : Int)
      have h2 := L_nle (Nat.div_le_self M (l.getD i default).den)
      have h3 := L_ab (l.getD i default).num
      have := h _ (yar hi); have := ybz (l.getD i default)
      omega)
    rwa [y4o] at this
  have hl2 : l.length < 1000000 := by omega
  clear h hLm hM hdv hMp hK
  refine go3 ?_
  refine X_up l.length (fun i s => ∃ j6 j16 h', s = ⟨[(0, eR l), (2, .nil), (3, .nil), (4, eN (lcs 1 (l.take i) : Nat)), (6, j6), (7, .undef), (9, .undef), (10, .undef), (13, eR l), (14, eI l.length), (15, eI i), (16, j16), (24, .undef), (25, .undef), (26, .undef), (27, .undef)], h'⟩) ?_ ?_ 0 (Nat.zero_le _) _ ⟨_, _, _, rfl⟩
  · rintro i s hi ⟨j6, j16, h', rfl⟩ rec
    have hlt := lt_c hi
    have g1 := g i hi
    have g2 := lc i hi
    generalize lcs 1 (l.take i) = m1 at *
    generalize lcs 1 (l.take (i + 1)) = m2 at *
    generalize l.getD i default = q at *
    have hw := yaq (n := i) (by omega)
    clear g lc dv ml md hfin one
    refine go3 ?_
    exact rec _ ⟨_, _, _, rfl⟩
  · rintro s ⟨j6, j16, h', rfl⟩
    have hlt : ¬ ((l.length : Int) < (l.length : Int)) := nlt_c
    rw [hfin]
    clear lc hfin one
    refine go3 ?_
    rcases Nat.eq_zero_or_pos l.length with e | e
    · obtain rfl := List.eq_nil_of_length_eq_zero e
      clear g dv ml md e
      refine yat ?_
      refine go3 ?_
      trivial
    · have hlt0 : ((0 : Int) < (l.length : Int)) := by omega
      have g0 := g 0 e
      have d0 := dv 0 e
      have m0 := ml 0 e
      have w0 := md 0 e
      have hw1 : wrap64 (0 + 1) = 1 := by rw [show (0 : Int) + 1 = 1 from rfl, w64 (by omega) (by omega)]
      have ht1 : (l.take 1).map (clr M) = [clr M (l.getD 0 default)] := by rw [yak l 0 e]; rfl
      have hs0 : [eZ (clr M (l.getD 0 default))] = em eZ ((l.take 1).map (clr M)) := by rw [ht1]; rfl
      replace hs0 := eq_true hs0
      clear ht1
      generalize l.getD 0 default = q at *
      refine yat ?_
      refine go3 ?_
      refine X_up l.length (fun i s => ∃ j9 j10 j27 v x y g2, s = ⟨[(0, eR l), (2, .nil), (3, .nil), (4, eN (M : Int)), (6, j6), (7, .ref (h'.length + 2) v 2 0 i), (9, j9), (10, j10), (13, eR l), (14, eI l.length), (15, eI l.length), (16, .bool false), (24, eR l), (25, eI l.length), (26, eI i), (27, j27)], h' ++ (x :: y :: some ⟨v, 2, em eZ ((l.take i).map (clr M))⟩ :: g2)⟩) ?_ ?_ 1 e _ ⟨_, _, _, _, _, _, _, by rw [show List.take 1 l = [l.getD 0 default] from by rw [yak l 0 e]; rfl]; rfl⟩
      · rintro i s hi ⟨j9, j10, j27, v, x, y, g2, rfl⟩ rec
        have hlt := lt_c hi
        have g1 := g i hi
        have d1 := dv i hi
        have m1 := ml i hi
        have w1 := md i hi
        have hlen : ((l.take i).map (clr M)).length = i := by simp; omega
        have ht : List.take i ((l.take i).map (clr M)) = (l.take i).map (clr M) := yag _ hlen.symm
        have hs : (l.take i).map (clr M) ++ [clr M (l.getD i default)] = (l.take (i + 1)).map (clr M) := by rw [yak l i hi]; simp
        have hlim : i < 4398046511104 := by omega
        have hi6 : i < 9223372036854775807 := by omega
        generalize l.getD i default = q1 at *
        generalize (l.take i).map (clr M) = R at *
        generalize (l.take (i + 1)).map (clr M) = R' at *
        have hw := yaq hi6
        clear g dv ml md g0 d0 m0 w0 hs0 hlen
        refine go3 ?_
        exact rec _ ⟨_, _, _, _, _, _, _, rfl⟩
      · rintro s ⟨j9, j10, j27, v, x, y, g2, rfl⟩
        have hlen : (l.map (clr M)).length = l.length := by simp
        rw [List.take_length]
        have ht : List.take l.length (l.map (clr M)) = l.map (clr M) := yag _ hlen.symm
        generalize l.map (clr M) = R at *
        clear g dv ml md g0 d0 m0 w0 hs0 hlen
        refine go3 ?_
        trivial
end Go.S

end
section
set_option linter.unusedVariables false
set_option linter.unusedSimpArgs false
set_option maxRecDepth 100000
namespace Go.S
open Go Go.AM Go.RowKit Go.K
theorem yt6 : CP (CL F) 42 [] = some (.bool true) := y4a 300 (by decide +kernel)
end Go.S

end
section
set_option linter.unusedVariables false
set_option linter.unusedSimpArgs false
set_option maxRecDepth 100000
namespace Go.S
open Go Go.AM Go.RowKit Go.K
theorem ymu {n c m : Nat} {A B : Mt} (hn : n ≤ 1000) (hc : c ≤ 1000) (hm : m ≤ 1000) : CP (CL F) 90 [rT (tab n c A), rT (tab n m B)] = some (rT (tab n (c + m) (bsd c A B))) := by
  refine CP_X (F := F) (f := 90) rfl rfl ?_
  have tl := yaj n c A
  have gA : ∀ i, i < n → (em rR (tab n c A))[i]? = some (rR (rowf c (A i))) := fun i hi => by
    have := yah (f := rR) (tab n c A) i (by rw [yaj]; exact hi)
    rwa [ya3 hi] at this
  have gB : ∀ i, i < n → (em rR (tab n m B))[i]? = some (rR (rowf m (B i))) := fun i hi => by
    have := yah (f := rR) (tab n m B) i (by rw [yaj]; exact hi)
    rwa [ya3 hi] at this
  have ap : ∀ i, rowf c (A i) ++ rowf m (B i) = rowf (c + m) (bsd c A B i) := fun i => yla c m _ _
  have sn : ∀ i, tab i (c + m) (bsd c A B) ++ [rowf (c + m) (bsd c A B i)] = tab (i + 1) (c + m) (bsd c A B) := fun i => by simp [tab, List.range_succ]
  generalize tab n c A = TA at *
  generalize tab n m B = TB at *
  generalize bsd c A B = E at *
  refine go3 ?_
  refine X_up n (fun i s => ∃ j11 v g, s = ⟨[(0, rT TA), (1, rT TB), (4, .nil), (5, .ref 0 v 1 0 i), (6, eI i), (11, j11)], some ⟨v, 1, em rR (tab i (c + m) E)⟩ :: g⟩) ?_ ?_ 0 (Nat.zero_le _) _ ⟨_, _, [], rfl⟩
  · rintro i s hi ⟨j11, v, g, rfl⟩ rec
    have hlt := lt_c hi
    have g1 := gA i hi
    have g2 := gB i hi
    have s1 := sn i
    have a1 := ap i
    have bl := yaj i (c + m) E
    have bt : List.take i (tab i (c + m) E) = tab i (c + m) E := yag _ bl.symm
    have l1 := yap c (A i)
    have l2 := yap m (B i)
    have l3 := yap (c + m) (E i)
    have t1 : List.take c (rowf c (A i)) = rowf c (A i) := yag _ l1.symm
    have t3 : List.take (c + m) (rowf (c + m) (E i)) = rowf (c + m) (E i) := yag _ l3.symm
    have lim1 : c ≤ 2513169434916 := by omega
    have lim2 : c + m ≤ 2513169434916 := by omega
    have hlim : i < 5864062014805 := by omega
    have hi6 : i < 9223372036854775807 := by omega
    generalize rowf (c + m) (E i) = Re at *
    generalize rowf c (A i) = Ra at *
    generalize rowf m (B i) = Rb at *
    generalize tab i (c + m) E = T1 at *
    generalize tab (i + 1) (c + m) E = T2 at *
    have hw := yaq hi6
    clear gA gB ap sn
    refine go3 ?_
    exact rec _ ⟨_, _, _, rfl⟩
  · rintro s ⟨j11, v, g, rfl⟩
    have hlt : ¬ ((n : Int) < (n : Int)) := nlt_c
    have bl := yaj n (c + m) E
    have bt : List.take n (tab n (c + m) E) = tab n (c + m) E := yag _ bl.symm
    generalize tab n (c + m) E = T1 at *
    clear gA gB ap sn
    refine go3 ?_
    trivial
structure In16 (p q : List (List Rat)) (n c m : Nat) (A B : Mt) : Prop where
  hp : p = tab n c A
  hq : q = tab n m B
  h0 : n = 0 → c = 0 ∧ m = 0
  hA : ∀ r, r < n → ∀ y, y < c → Lq (A r y) ≤ 1
  hB : ∀ r, r < n → ∀ y, y < m → Lq (B r y) ≤ 1
theorem In16.mk' {p q : List (List Rat)} (h : shp16 p q false = true) (hp : ∀ r ∈ p, ∀ x ∈ r, Lq x ≤ 1) (hq : ∀ r ∈ q, ∀ x ∈ r, Lq x ≤ 1) : In16 p q p.length (wide p) (wide q) (ent p) (ent q) := by
  obtain ⟨m1, m2, hl, _⟩ := yb8.1 h
  have e1 := (yos.1 m1).2.2
  have e2 := (yos.1 m2).2.2
  refine ⟨(y0m e1).symm, ?_, fun h => ?_, yq4 hp e1, ?_⟩
  · rw [← hl]; exact (y0m e2).symm
  · have a : p = [] := List.eq_nil_of_length_eq_zero h
    have b : q = [] := List.eq_nil_of_length_eq_zero (by omega)
    rw [a, b]
    exact ⟨rfl, rfl⟩
  · rw [← hl]; exact yq4 hq e2
theorem In16.hAB {p q : List (List Rat)} {n c m : Nat} {A B : Mt} (I : In16 p q n c m A B) : ∀ r, r < n → ∀ y, y < c + m → Lq (bsd c A B r y) ≤ 1 := fun r hr y hy => by
  unfold bsd
  split
  · next h => exact I.hA r hr y h
  · exact I.hB r hr _ (by omega)
theorem GB_le {n c K M : Nat} {A : Mt} (hK : 1 ≤ K) (hA : ∀ r, r < n → ∀ y, y < c → Lq (A r y) ≤ K) (h : K * 5 ^ n ≤ M) : GB n c M A := fun j hj => by
  obtain ⟨g1, g2⟩ := y3b hK hA j hj
  exact ⟨fun r hr y hy => Nat.le_trans (g1 r hr y hy) h, Nat.le_trans g2 h⟩
set_option maxHeartbeats 2000000
end Go.S

end
section
set_option linter.unusedVariables false
set_option linter.unusedSimpArgs false
set_option maxRecDepth 100000
namespace Go.S
open Go Go.AM Go.RowKit Go.K
theorem ymq {a b : List (List Rat)} (ha : a.length ≤ 1000000) (hb : b.length ≤ 1000000) (h : shp16 a b true = false) : CP (CL F) 39 [eT a, eT b] = some (.tup [.lst [], eI 8]) := by
  refine CP_X (F := F) (f := 39) rfl rfl ?_
  have k := ycf ha hb true
  rw [h, if_neg (by decide)] at k
  clear h
  refine go3 ?_
  trivial
theorem yt8 : CP (CL F) 39 [.lst [], .lst []] = some (.tup [.lst [], eI 0]) := by
  refine CP_X (F := F) (f := 39) rfl rfl ?_
  have k : CP (CL F) 87 [.lst [], .lst [], .bool true] = some (eI 0) := ycf (a := []) (b := []) (by simp) (by simp) true
  have i := yry
  refine go3 ?_
  trivial
theorem yk6 {a b : List (List Rat)} (ha : a.length ≤ 1000000) (hb : b.length ≤ 1000000) (h : shp16 a b true = true) (i : CP (CL F) 33 [eT a] = some (.tup [.lst [], eI 7])) : CP (CL F) 39 [eT a, eT b] = some (.tup [.lst [], eI 7]) := by
  refine CP_X (F := F) (f := 39) rfl rfl ?_
  have k := ycf ha hb true
  rw [h, if_pos rfl] at k
  clear h
  refine go3 ?_
  trivial
theorem yyl {a b v x : List (List Rat)} (ha : a.length ≤ 1000000) (hb : b.length ≤ 1000000) (h : shp16 a b true = true) (hn : 0 < a.length) (i : CP (CL F) 33 [eT a] = some (.tup [eT v, eI 0])) (m : CP (CL F) 23 [.lst (em eT [v, b])] = some (.tup [eT x, eI 0])) : CP (CL F) 39 [eT a, eT b] = some (.tup [eT x, eI 0]) := by
  refine CP_X (F := F) (f := 39) rfl rfl ?_
  have k := ycf ha hb true
  rw [h, if_pos rfl] at k
  have fp : ∀ (a b : List (List Rat)) (h : Heap), fzR (Go.AM.frz h 6) (some (some ⟨0, 1, [eT a, eT b]⟩)) 0 0 2 = some (.lst (em eT [a, b])) := fun a b h => yc7 (h := h) (v := 0) (off := 0) (len := 2) E_eT [a, b]
  have up : ∀ (a b : List (List Rat)) (h : Heap) (i : Nat), usR (used h 6) (some (some ⟨0, 1, [eT a, eT b]⟩)) i 0 0 2 = [i] := fun a b h i => ydh (h := h) (id := i) (v := 0) (off := 0) (len := 2) E_eT [a, b]
  have c0 := eq_false (show ¬ ((a.length : Int) = 0) by omega)
  clear h hn
  refine go3 ?_
  trivial
theorem ymr {a b : List (List Rat)} (ha : a.length ≤ 1000000) (hb : b.length ≤ 1000000) (h : shp16 a b true = false) : CP (CL F) 40 [eT a, eT b] = some (.tup [.lst [], eI 8]) := by
  refine CP_X (F := F) (f := 40) rfl rfl ?_
  have k := ycf ha hb true
  rw [h, if_neg (by decide)] at k
  clear h
  refine go3 ?_
  trivial
theorem yt9 : CP (CL F) 40 [.lst [], .lst []] = some (.tup [.lst [], eI 0]) := by
  refine CP_X (F := F) (f := 40) rfl rfl ?_
  have k : CP (CL F) 87 [.lst [], .lst [], .bool true] = some (eI 0) := ycf (a := []) (b := []) (by simp) (by simp) true
  have i := yuo
  generalize (1 : Int) = o at i
  refine go3 ?_
  refine yat ?_
  refine go3 ?_
  refine yat ?_
  refine go3 ?_
  trivial
def rowM (n m : Nat) (A B : Mt) (i : Nat) : Nat := lcs 1 (rowf (n + m) (bsd n A B i))
def clz16 (n m : Nat) (A B C : Mt) : Zt := fun i j => clr (rowM n m A B i) (C i j)
theorem y3u (n m : Nat) (A B : Mt) (i : Nat) : (rowf (n + m) (bsd n A B i)).map (clr (lcs 1 (rowf (n + m) (bsd n A B i)))) = rwg (n + m) (abz n (clz16 n m A B A) (clz16 n m A B B) i) := by
  unfold rowf rwg
  rw [List.map_map]
  refine List.map_congr_left fun j hj => ?_
  show clr (rowM n m A B i) (bsd n A B i j) = abz n (clz16 n m A B A) (clz16 n m A B B) i j
  unfold abz bsd clz16
  split <;> rfl
def xsol (N : Zt) (d : Int) : Mt := fun i j => Rat.divInt (N i j) d
end Go.S

end
section
set_option linter.unusedVariables false
set_option linter.unusedSimpArgs false
set_option maxRecDepth 100000
namespace Go.S
open Go Go.AM Go.RowKit Go.K
set_option maxHeartbeats 2000000
theorem yp7 {n m K : Nat} {A B : Mt} {xv : AV} {bb : Bool} {ll : List AV} {ev : Int} {Xo : List (List Rat)} (h0n : 0 < n) (hn : n ≤ 100) (hm : m ≤ 100) (hK : K ≤ 1000) (hAB : ∀ r, r < n → ∀ y, y < n + m → Lq (bsd n A B r y) ≤ K)
    (hs : CP (CL F) 88 [eTZ (tbg n n (clz16 n m A B A)), eTZ (tbg n m (clz16 n m A B B))] = some (.tup [xv, .agg [.bool bb, .lst ll], eI ev]))
    (hx : ev ≠ 0 ∧ Xo = [] ∨ ev = 0 ∧ ∃ N d, d ≠ 0 ∧ L d < 100000 ∧ (∀ i, i < n → ∀ j, j < m → L (N i j) < 100000) ∧ xv = eTZ (tbg n m N) ∧ .agg [.bool bb, .lst ll] = eZ d ∧ Xo = tab n m (xsol N d)) :
    CP (CL F) 40 [eT (tab n n A), eT (tab n m B)] = some (.tup [eT Xo, eI ev]) := by
  have k1 := ycf (a := tab n n A) (b := tab n m B) (by rw [yaj]; omega) (by rw [yaj]; omega) true
  rw [yb8.2 ⟨ykv (by omega) (by omega), ykv (by omega) (by omega), by rw [yaj, yaj], fun _ => by rw [yaj, yfr h0n]⟩, if_pos rfl] at k1
  have tl := yaj n n A
  have gA : ∀ i, i < n → (em eR (tab n n A))[i]? = some (eR (rowf n (A i))) := fun i hi => by
    have := yah (f := eR) (tab n n A) i (by rw [yaj]; exact hi)
    rwa [ya3 hi] at this
  have gB : ∀ i, i < n → (em eR (tab n m B))[i]? = some (eR (rowf m (B i))) := fun i hi => by
    have := yah (f := eR) (tab n m B) i (by rw [yaj]; exact hi)
    rwa [ya3 hi] at this
  have cc : ∀ i, CP (CL F) 82 [.lst (em eR [rowf n (A i), rowf m (B i)])] = some (eR (rowf (n + m) (bsd n A B i))) := fun i => by
    have := yqc (a := rowf n (A i)) (b := rowf m (B i)) (by rw [yap]; omega) (by rw [yap]; omega)
    rwa [yla] at this
  have cl : ∀ i, i < n → ∃ r, CP (CL F) 45 [eR (rowf (n + m) (bsd n A B i))] = some (.tup [eRZ (rwg (n + m) (abz n (clz16 n m A B A) (clz16 n m A B B) i)), r]) := fun i hi => by
    have := y19 (l := rowf (n + m) (bsd n A B i)) (by rw [yap]; omega) (K := K) (by omega) (fun q hq => by
      obtain ⟨y, hy, rfl⟩ := ybn.1 hq
      exact hAB i hi y hy)
    rw [y3u] at this
    exact ⟨_, this⟩
  have tk1 : ∀ i, List.take n (rwg (n + m) (abz n (clz16 n m A B A) (clz16 n m A B B) i)) = rwg n (clz16 n m A B A i) := fun i => by
    rw [yyu (by omega)]
    exact yec fun j hj => by unfold abz; rw [if_pos hj]
  have dp1 : ∀ i, List.drop n (rwg (n + m) (abz n (clz16 n m A B A) (clz16 n m A B B) i)) = rwg m (clz16 n m A B B i) := fun i => by
    rw [yyv, show n + m - n = m by omega]
    exact yec fun j hj => by unfold abz; rw [if_neg (by omega), show n + j - n = j by omega]
  have ra := fun i => yap n (A i)
  have ll1 := fun i => ya6 (n + m) (abz n (clz16 n m A B A) (clz16 n m A B B) i)
  have lm1 := fun i => ya6 m (clz16 n m A B B i)
  generalize clz16 n m A B A = ZA at *
  generalize clz16 n m A B B = ZB at *
  generalize tab n n A = TA at *
  generalize tab n m B = TB at *
  have sA := fun i => ykq i n ZA
  have sB := fun i => ykq i m ZB
  have fp : ∀ (a b : List Rat) (h : Heap), fzR (Go.AM.frz h 6) (some (some ⟨0, 1, [eR a, eR b]⟩)) 0 0 2 = some (.lst (em eR [a, b])) := fun a b h => yc7 (h := h) (v := 0) (off := 0) (len := 2) E_eR [a, b]
  have up : ∀ (a b : List Rat) (h : Heap) (i : Nat), usR (used h 6) (some (some ⟨0, 1, [eR a, eR b]⟩)) i 0 0 2 = [i] := fun a b h i => ydh (h := h) (id := i) (v := 0) (off := 0) (len := 2) E_eR [a, b]
  have g0 := gA 0 h0n
  have b0 := gB 0 h0n
  have c0 := cc 0
  obtain ⟨r0, e0⟩ := cl 0 h0n
  have hlt0 : ((0 : Int) < (n : Int)) := by omega
  have hw1 : wrap64 (0 + 1) = 1 := by rw [show (0 : Int) + 1 = 1 from rfl, w64 (by omega) (by omega)]
  have ra0 := ra 0
  have t0 := tk1 0
  have d0 := dp1 0
  have ll0 := ll1 0
  have lm0 := lm1 0
  have sub1 : ∀ i, sub (em eZ (rwg (n + m) (abz n ZA ZB i))) n (n + m - n) = em eZ (rwg m (ZB i)) := fun i => by
    rw [yq6, dp1, show n + m - n = m by omega, List.take_of_length_le (by rw [lm1]; omega)]
  have sub2 : ∀ i, sub (em eZ (rwg (n + m) (abz n ZA ZB i))) 0 n = em eZ (rwg n (ZA i)) := fun i => by
    rw [yq6, List.drop_zero, tk1]
  have le1 : (n : Int) ≤ ((n + m : Nat) : Int) := by omega
  refine CP_X (F := F) (f := 40) rfl rfl ?_
  generalize hZ : (fun i => rwg (n + m) (abz n ZA ZB i)) = ZR at *
  have hZ2 : ∀ i, rwg (n + m) (abz n ZA ZB i) = ZR i := fun i => by rw [← hZ]
  simp only [hZ2] at *
  clear hZ hZ2 hAB
  have fq : ∀ (a : List Int) (h : Heap), fzR (Go.AM.frz h 6) (some (some ⟨0, 1, [eRZ a]⟩)) 0 0 1 = some (.lst (em eRZ [a])) := fun a h => yc7 (h := h) (v := 0) (off := 0) (len := 1) E_eRZ [a]
  have e2 : n + m - n = m := by omega
  have tm : ∀ i, List.take m (rwg m (ZB i)) = rwg m (ZB i) := fun i => yag _ (lm1 i).symm
  have fe : ∀ a : List Int, (em eRZ [a]).isEmpty = false := fun _ => rfl
  have fl : ∀ a : List Int, (em eRZ [a]).length = 1 := fun _ => rfl
  refine go3 ?_
  refine yat ?_
  refine go3 ?_
  refine X_up n (fun i s => ∃ j9 j10 j11 j31 v w x g, s = ⟨[(0, eT TA), (1, eT TB), (4, .nil), (5, eI 0), (6, eI 0), (7, .ref 1 v 1 0 i), (8, .ref 2 w 1 0 i), (9, j9), (10, j10), (11, j11), (13, .undef), (14, .undef), (15, .undef), (16, .undef), (18, .undef), (19, .undef), (20, .undef), (21, .undef), (26, .bool false), (28, eT TA), (29, eI n), (30, eI i), (31, j31), (69, .undef), (71, .undef), (72, .undef), (73, .undef), (74, .undef), (80, .undef), (81, .undef), (82, .undef), (83, .undef)], x :: some ⟨v, 1, em eRZ (tbg i n ZA)⟩ :: some ⟨w, 1, em eRZ (tbg i m ZB)⟩ :: g⟩) ?_ ?_ 1 h0n _ ⟨_, _, _, _, _, _, _, _, rfl⟩
  · rintro i s hi ⟨j9, j10, j11, j31, v, w, x, g, rfl⟩ rec
    have hlt := lt_c hi
    have g1 := gA i hi
    have b1 := gB i hi
    have c1 := cc i
    obtain ⟨r1, e1⟩ := cl i hi
    have s1 := sA i
    have s2 := sB i
    have q1 := tk1 i
    have q2 := dp1 i
    have q3 := ra i
    have q4 := ll1 i
    have q5 := lm1 i
    have q6 := tm i
    have bl := ybq i n ZA
    have bt : List.take i (tbg i n ZA) = tbg i n ZA := yag _ bl.symm
    have bl2 := ybq i m ZB
    have bt2 : List.take i (tbg i m ZB) = tbg i m ZB := yag _ bl2.symm
    have hlim : i < 5864062014805 := by omega
    have hi6 : i < 9223372036854775807 := by omega
    generalize ZR i = Zi at *
    generalize rwg n (ZA i) = za at *
    generalize rwg m (ZB i) = zb at *
    generalize tbg i n ZA = T1 at *
    generalize tbg (i + 1) n ZA = T1' at *
    generalize tbg i m ZB = T2 at *
    generalize tbg (i + 1) m ZB = T2' at *
    generalize rowf n (A i) = rA at *
    generalize rowf m (B i) = rB at *
    have hw := yaq hi6
    clear gA gB cc cl sA sB tk1 dp1 ra ll1 lm1 tm sub1 sub2 g0 b0 c0 e0 ra0 t0 d0 ll0 lm0 k1 hs hx
    refine go3 ?_
    exact rec _ ⟨_, _, _, _, _, _, _, _, rfl⟩
  · rintro s ⟨j9, j10, j11, j31, v, w, x, g, rfl⟩
    have hlt : ¬ ((n : Int) < (n : Int)) := nlt_c
    have bl := ybq n n ZA
    have bt : List.take n (tbg n n ZA) = tbg n n ZA := yag _ bl.symm
    have bl2 := ybq n m ZB
    have bt2 : List.take n (tbg n m ZB) = tbg n m ZB := yag _ bl2.symm
    generalize tbg n n ZA = T1 at *
    generalize tbg n m ZB = T2 at *
    clear gA gB cc cl sA sB tk1 dp1 ra ll1 lm1 tm sub1 sub2 g0 b0 c0 e0 ra0 t0 d0 ll0 lm0 k1
    rcases hx with ⟨h1, rfl⟩ | ⟨rfl, N, d, hd, hdl, hN, rfl, he, rfl⟩
    · have h2 := eq_false h1
      have h3 := eq_true h1
      clear h1
      refine go3 ?_
      trivial
    · rw [he] at hs
      clear he
      have mk : ∀ i, i < n → ∀ j, j < m → CP (CL F) 70 [eZ (N i j), eZ d] = some (.tup [eQ (xsol N d i j), eI 0]) := fun i hi j hj => yet hd (by have := hN i hi j hj; omega) (by omega)
      have gN : ∀ i, i < n → (em eRZ (tbg n m N))[i]? = some (eRZ (rwg m (N i))) := fun i hi => by
        have := yah (f := eRZ) (tbg n m N) i (by rw [ybq]; exact hi)
        rwa [ykr hi] at this
      have gn : ∀ i j, j < m → (em eZ (rwg m (N i)))[j]? = some (eZ (N i j)) := fun i j hj => by
        have := yah (f := eZ) (rwg m (N i)) j (by rw [ya6]; exact hj)
        rwa [yff hj] at this
      have lN := ybq n m N
      have ln := fun i => ya6 m (N i)
      generalize xsol N d = X at *
      generalize tbg n m N = TN at *
      clear hN hd hdl
      have nn : 0 < n := h0n
      refine go3 ?_
      refine X_up n (fun i s => ∃ j18 j19 j20 j21 j74 j80 j81 j82 j83 tx tail, ((i = 0 ∧ tx = .nil) ∨ ∃ v' g2 g3, tail = g2 ++ some ⟨v', 1, em eR (tab i m X)⟩ :: g3 ∧ tx = .ref (g.length + (g2.length + 1) + 1 + 1 + 1) v' 1 0 i) ∧ s = ⟨[(0, eT TA), (1, eT TB), (4, .nil), (5, eI 0), (6, eI 0), (7, .ref 1 v 1 0 n), (8, .ref 2 w 1 0 n), (9, j9), (10, j10), (11, j11), (13, eTZ TN), (14, .ptr (g.length + 1 + 1 + 1) 0 0 0), (15, eI 0), (16, tx), (18, j18), (19, j19), (20, j20), (21, j21), (26, .bool false), (28, eT TA), (29, eI n), (30, eI n), (31, .bool false), (69, .bool false), (71, eTZ TN), (72, eI n), (73, eI i), (74, j74), (80, j80), (81, j81), (82, j82), (83, j83)], x :: none :: none :: (g ++ (some ⟨0, 2, [eZ d]⟩ :: tail))⟩) ?_ ?_ 0 (Nat.zero_le _) _ ⟨_, _, _, _, _, _, _, _, _, _, [], .inl ⟨rfl, rfl⟩, rfl⟩
      · rintro i s hi ⟨j18, j19, j20, j21, j74, j80, j81, j82, j83, tx, tail, htx, rfl⟩ rec
        have hlt := lt_c hi
        have g1 := gN i hi
        have g2' := gn i
        have l1 := ln i
        have mk1 := mk i hi
        have lim1 : (m : Int) ≤ 5026338869833 := by omega
        have lim2 : m ≤ 5026338869833 := by omega
        have hi6 : i < 9223372036854775807 := by omega
        have rs : ∀ j, rowf j (X i) ++ [X i j] = rowf (j + 1) (X i) := fun j => by simp [rowf, List.range_succ]
        clear gN gn ln mk hs
        refine go3 ?_
        refine X_up m (fun j s => ∃ j20 j21 j83 g4, s = ⟨[(0, eT TA), (1, eT TB), (4, .nil), (5, eI 0), (6, eI 0), (7, .ref 1 v 1 0 n), (8, .ref 2 w 1 0 n), (9, j9), (10, j10), (11, j11), (13, eTZ TN), (14, .ptr (g.length + 1 + 1 + 1) 0 0 0), (15, eI 0), (16, tx), (18, eRZ (rwg m (N i))), (19, .ref (g.length + (tail.length + 1) + 1 + 1 + 1) 0 3 0 m), (20, j20), (21, j21), (26, .bool false), (28, eT TA), (29, eI n), (30, eI n), (31, .bool false), (69, .bool false), (71, eTZ TN), (72, eI n), (73, eI i), (74, .bool true), (80, eRZ (rwg m (N i))), (81, eI m), (82, eI j), (83, j83)], x :: none :: none :: (g ++ (some ⟨0, 2, [eZ d]⟩ :: (tail ++ (some ⟨0, 3, em eQ (rowf j (X i)) ++ List.replicate (m - j) zQ⟩ :: g4))))⟩) ?_ ?_ 0 (Nat.zero_le _) _ ⟨_, _, _, [], rfl⟩
        · rintro j s hj ⟨j20, j21, j83, g4, rfl⟩ rec2
          have hlt2 := lt_c hj
          have q1 := g2' j hj
          have q2 := mk1 j hj
          obtain ⟨dd, hd⟩ : ∃ dd, m - j = dd + 1 := ⟨m - j - 1, by omega⟩
          have hd2 : m - (j + 1) = dd := by omega
          rw [hd]
          rw [hd2] at rec2
          have fl' := yap j (X i)
          have f1 := ydw (f := eQ) (rowf j (X i)) dd zQ
          have f2 := ydv (f := eQ) (rowf j (X i)) dd zQ (X i j)
          rw [fl'] at f1 f2
          rw [rs j] at f2
          have hj6 : j < 9223372036854775807 := by omega
          generalize rowf j (X i) = R at *
          generalize rowf (j + 1) (X i) = R' at *
          generalize X i j = xx at *
          have hw := yaq hj6
          clear g2' mk1 rs rec htx hd hd2 fl'
          refine go3 ?_
          exact rec2 _ ⟨_, _, _, _, rfl⟩
        · rintro s ⟨j20, j21, j83, g4, rfl⟩
          have hlt2 : ¬ ((m : Int) < (m : Int)) := nlt_c
          rw [Nat.sub_self, show List.replicate 0 zQ = [] from rfl, List.append_nil]
          have rl := yap m (X i)
          have sb : sub (em eQ (rowf m (X i))) 0 m = em eQ (rowf m (X i)) := by
            have := yft (f := eQ) (rowf m (X i))
            rwa [yap] at this
          have rt : List.take m (rowf m (X i)) = rowf m (X i) := yag _ rl.symm
          have sT : tab i m X ++ [rowf m (X i)] = tab (i + 1) m X := by simp [tab, List.range_succ]
          have bl3 := yaj i m X
          have bt3 : List.take i (tab i m X) = tab i m X := yag _ bl3.symm
          have hlim : i < 5864062014805 := by omega
          have h00 : i = 0 → [eR (rowf m (X i))] = em eR (tab (i + 1) m X) := fun h => by subst h; rfl
          generalize rowf m (X i) = R at *
          generalize tab i m X = T3 at *
          generalize tab (i + 1) m X = T4 at *
          rcases htx with ⟨hi0, rfl⟩ | ⟨v', g2, g3, rfl, rfl⟩
          · have h01 := eq_true (h00 hi0)
            replace hi0 := eq_true hi0
            have hw := yaq hi6
            clear g2' mk1 rs h00 sT bt3 bl3
            refine go3 ?_
            obtain rfl := of_eq_true hi0
            have e3 : em eR T4 = [AV.lst (em eQ R)] := (of_eq_true h01).symm
            refine rec _ ⟨_, _, _, _, _, _, _, _, _, _, _, .inr ⟨0, tail ++ none :: (g4 ++ [some ⟨0, 1, [AV.lst (em eQ R)]⟩]), [], ?_, ?_⟩, rfl⟩
            · rw [e3]; simp
            · simp
          · have hw := yaq hi6
            clear g2' mk1 rs h00
            refine go3 ?_
            exact rec _ ⟨_, _, _, _, _, _, _, _, _, _, _, .inr ⟨v' + 1, g2, _, rfl, rfl⟩, rfl⟩
      · rintro s ⟨j18, j19, j20, j21, j74, j80, j81, j82, j83, tx, tail, htx, rfl⟩
        have hlt : ¬ ((n : Int) < (n : Int)) := nlt_c
        have bl3 := yaj n m X
        have bt3 : List.take n (tab n m X) = tab n m X := yag _ bl3.symm
        generalize tab n m X = T3 at *
        rcases htx with ⟨hi0, rfl⟩ | ⟨v', g2, g3, rfl, rfl⟩
        · omega
        · clear gN gn mk ln hs
          refine go3 ?_
          trivial
end Go.S

end
section
set_option linter.unusedVariables false
set_option linter.unusedSimpArgs false
set_option maxRecDepth 100000
namespace Go.S
open Go Go.AM Go.RowKit Go.K
theorem L_sgz (b : Bool) (z : Int) : L (sgz b * z) = L z := by
  unfold sgz
  cases b
  · simp
  · have : (if true = true then (-1 : Int) else 1) * z = -z := by simp
    rw [this, L_neg]
theorem yhl (n m : Nat) (A B : Mt) (i : Nat) : 0 < rowM n m A B i := yov _ 1 (by decide)
theorem yhm {n m : Nat} {A B : Mt} {i j : Nat} (hj : j < n + m) : (bsd n A B i j).den ∣ rowM n m A B i := (yvj _ 1).2 _ (ybn.2 ⟨j, hj, rfl⟩)
theorem y0s {n m : Nat} {A B : Mt} {i : Nat} (hi : i < n) (h : ∀ r, r < n → ∀ y, y < n + m → Lq (bsd n A B r y) ≤ 1) : L ((rowM n m A B i : Nat) : Int) ≤ 1 + (n + m) := by
  have := lcs_L (K := 1) (rowf (n + m) (bsd n A B i)) 1 (by decide) fun q hq => by
    obtain ⟨y, hy, rfl⟩ := ybn.1 hq
    exact h i hi y hy
  rw [yap] at this
  have h1 : L ((1 : Nat) : Int) ≤ 1 := L_one
  unfold rowM
  omega
theorem natq {n : Nat} (h : 0 < n) : ((n : Int) : Rat) ≠ 0 := fun e => by
  have := zinj (a := (n : Int)) (b := 0) e
  omega
theorem ywi {n m : Nat} {A B : Mt} (h0n : 0 < n) (hn : n ≤ 5) (hm : m ≤ 5) (hAB : ∀ r, r < n → ∀ y, y < n + m → Lq (bsd n A B r y) ≤ 1) :
    ((grun n A n).2.1.length < n ∧ CP (CL F) 40 [eT (tab n n A), eT (tab n m B)] = some (.tup [.lst [], eI 7])) ∨
    ((grun n A n).2.1.length = n ∧ ∃ X : Mt, (∀ j, j < m → ∀ l, l < n → sm n (fun k => A l k * X k j) = B l j) ∧ (∀ i, i < n → ∀ j, j < m → Lq (X i j) ≤ 448) ∧
      CP (CL F) 40 [eT (tab n n A), eT (tab n m B)] = some (.tup [eT (tab n m X), eI 0])) := by
  have hA : ∀ i, i < n → ∀ j, j < n → ((clz16 n m A B A i j : Int) : Rat) = A i j * ((rowM n m A B i : Int) : Rat) := fun i hi j hj => by
    have := yhm (n := n) (m := m) (A := A) (B := B) (i := i) (j := j) (by omega)
    rw [show bsd n A B i j = A i j from if_pos hj] at this
    exact yrc this
  have hB : ∀ i, i < n → ∀ j, j < m → ((clz16 n m A B B i j : Int) : Rat) = B i j * ((rowM n m A B i : Int) : Rat) := fun i hi j hj => by
    have := yhm (n := n) (m := m) (A := A) (B := B) (i := i) (j := n + j) (by omega)
    rw [show bsd n A B i (n + j) = B i j from by unfold bsd; rw [if_neg (by omega), show n + j - n = j by omega]] at this
    exact yrc this
  have lA : ∀ i, i < n → ∀ j, j < n → L (clz16 n m A B A i j) ≤ 12 := fun i hi j hj => by
    have h1 := yhm (n := n) (m := m) (A := A) (B := B) (i := i) (j := j) (by omega)
    have h2 := hAB i hi j (by omega)
    rw [show bsd n A B i j = A i j from if_pos hj] at h1 h2
    have h3 := clr_L h1 (yhl n m A B i)
    have h4 := y0s hi hAB
    have h5 := ybz (A i j)
    show L (clr (rowM n m A B i) (A i j)) ≤ 12
    omega
  have lB : ∀ i, i < n → ∀ j, j < m → L (clz16 n m A B B i j) ≤ 12 := fun i hi j hj => by
    have h1 := yhm (n := n) (m := m) (A := A) (B := B) (i := i) (j := n + j) (by omega)
    have h2 := hAB i hi (n + j) (by omega)
    rw [show bsd n A B i (n + j) = B i j from by unfold bsd; rw [if_neg (by omega), show n + j - n = j by omega]] at h1 h2
    have h3 := clr_L h1 (yhl n m A B i)
    have h4 := y0s hi hAB
    have h5 := ybz (B i j)
    show L (clr (rowM n m A B i) (B i j)) ≤ 12
    omega
  have hpow : 2 ^ n * (12 + 2) ≤ 448 := by
    have : 2 ^ n ≤ 2 ^ 5 := Nat.pow_le_pow_right (by decide) hn
    omega
  have hs := yyq (n := n) (m := m) (K := 12) (A := clz16 n m A B A) (B := clz16 n m A B B) h0n (by omega) (by omega) lA lB (by omega)
  have hdet : zdet n (clz16 n m A B A) = 0 ↔ (grun n A n).2.1.length < n := by
    have e1 : det n (zq (clz16 n m A B A)) = det n fun i j => A i j * ((rowM n m A B i : Int) : Rat) := ybf fun i j hi hj => hA i hi j hj
    rw [← yvt, ← yhu, ← yz2 (A := A) (M := fun i => ((rowM n m A B i : Int) : Rat)) fun i => natq (yhl n m A B i), ← e1, ← yd2]
    exact ⟨fun h => by rw [h]; rfl, fun h => zinj h⟩
  have hc : zdet n (abz n (clz16 n m A B A) (clz16 n m A B B)) = zdet n (clz16 n m A B A) := yrk fun i c hi hc => by unfold abz; rw [if_pos hc]
  unfold bsol at hs
  cases hz : zrun n (abz n (clz16 n m A B A) (clz16 n m A B B)) n with
  | none =>
    rw [hz] at hs
    have h1 := yst hz
    rw [hc] at h1
    refine .inl ⟨hdet.1 h1, ?_⟩
    exact yp7 (Xo := []) h0n (by omega) (by omega) (K := 1) (by omega) hAB hs (.inl ⟨by decide, rfl⟩)
  | some s =>
    rw [hz] at hs
    obtain ⟨d1, d2⟩ := yx1 hz
    rw [hc] at d1 d2
    have hfull : (grun n A n).2.1.length = n := by
      have h1 := (ycu n A n).le
      have h2 : ¬ ((grun n A n).2.1.length < n) := fun h => d2 (hdet.2 h)
      omega
    obtain ⟨z1, z2⟩ := yhy (n := n) (c := n + m) (K := 12) (A := abz n (clz16 n m A B A) (clz16 n m A B B)) (by omega) (fun i hi j hj => by
      unfold abz
      split
      · next h => exact lA i hi j h
      · exact lB i hi _ (by omega)) (Nat.le_refl n) hz
    have hd : sgz s.neg * s.pv ≠ 0 := by rw [← d1]; exact d2
    have hN : ∀ i, i < n → ∀ j, j < m → L (sgz s.neg * s.Z i (n + j)) ≤ 447 := fun i hi j hj => by
      rw [L_sgz]
      have := z1 i hi (n + j) (by omega)
      omega
    have hdl : L (sgz s.neg * s.pv) ≤ 447 := by rw [L_sgz]; omega
    refine .inr ⟨hfull, xsol (fun i j => sgz s.neg * s.Z i (n + j)) (sgz s.neg * s.pv), fun j hj l hl => ?_, fun i hi j hj => ?_, ?_⟩
    · have sv := ynt hz hl (n + j)
      have sv2 : ((zsm n (fun i => abz n (clz16 n m A B A) (clz16 n m A B B) l i * (sgz s.neg * s.Z i (n + j))) : Int) : Rat) = ((abz n (clz16 n m A B A) (clz16 n m A B B) l (n + j) * (sgz s.neg * s.pv) : Int) : Rat) := by rw [sv]
      rw [ykh, Rat.intCast_mul, show abz n (clz16 n m A B A) (clz16 n m A B B) l (n + j) = clz16 n m A B B l j from by unfold abz; rw [if_neg (by omega), show n + j - n = j by omega], hB l hl j hj] at sv2
      have hdq : ((sgz s.neg * s.pv : Int) : Rat) ≠ 0 := fun e => hd (zinj (b := 0) e)
      have hMq := natq (yhl n m A B l)
      have e1 : sm n (fun i => ((abz n (clz16 n m A B A) (clz16 n m A B B) l i * (sgz s.neg * s.Z i (n + j)) : Int) : Rat)) = (((rowM n m A B l : Int) : Rat) * ((sgz s.neg * s.pv : Int) : Rat)) * sm n (fun k => A l k * xsol (fun i j => sgz s.neg * s.Z i (n + j)) (sgz s.neg * s.pv) k j) := by
        rw [← ycn]
        refine yau fun k hk => ?_
        rw [Rat.intCast_mul, show abz n (clz16 n m A B A) (clz16 n m A B B) l k = clz16 n m A B A l k from by unfold abz; rw [if_pos hk], hA l hl k hk]
        unfold xsol
        rw [Rat.divInt_eq_div]
        generalize ((sgz s.neg * s.pv : Int) : Rat) = D at *
        generalize ((sgz s.neg * s.Z k (n + j) : Int) : Rat) = N at *
        generalize ((rowM n m A B l : Int) : Rat) = M at *
        grind
      rw [e1] at sv2
      generalize sm n (fun k => A l k * xsol (fun i j => sgz s.neg * s.Z i (n + j)) (sgz s.neg * s.pv) k j) = S at *
      generalize ((sgz s.neg * s.pv : Int) : Rat) = D at *
      generalize ((rowM n m A B l : Int) : Rat) = M at *
      grind
    · have h1 := yep (p := sgz s.neg * s.Z i (n + j)) (d := sgz s.neg * s.pv) hd
      have h2 := hN i hi j hj
      show Lq (Rat.divInt (sgz s.neg * s.Z i (n + j)) (sgz s.neg * s.pv)) ≤ 448
      omega
    · exact yp7 h0n (by omega) (by omega) (K := 1) (by omega) hAB hs (.inr ⟨rfl, _, _, hd, by omega, fun i hi j hj => by have := hN i hi j hj; omega, rfl, rfl, rfl⟩)
theorem ymt : CP (CL F) 43 [.lst [], .lst []] = some (.tup [.lst [], eI 0]) := by
  refine CP_X (F := F) (f := 43) rfl rfl ?_
  have k1 : CP (CL F) 17 [.lst []] = some (.tup [.lst [], .lst []]) := yfd (n := 0) (c := 0) (K := 1) (A := fun _ _ => 0) (by omega) (by omega) (fun h => h) (by omega) (fun r hr => by omega) (by decide)
  have k2 : CP (CL F) 90 [.lst [], .lst []] = some (.lst []) := ymu (n := 0) (c := 0) (m := 0) (A := fun _ _ => 0) (B := fun _ _ => 0) (by omega) (by omega) (by omega)
  refine go3 ?_
  refine yat ?_
  refine go3 ?_
  trivial
theorem yrr {n m K : Nat} {A B : Mt} (h0n : 0 < n) (hn : n ≤ 100) (hm : m ≤ 100) (hK : 1 ≤ K) (hA : ∀ r, r < n → ∀ y, y < n → Lq (A r y) ≤ K) (hB : ∀ r, r < n → ∀ y, y < n + m → Lq (bsd n A B r y) ≤ K) (hb : K * 5 ^ n < 1000000) :
    CP (CL F) 43 [rT (tab n n A), rT (tab n m B)] = some (.tup [if (grun n A n).2.1.length < n then .lst [] else rT (tab n m fun i j => (grun n (bsd n A B) (n + m)).1 i (n + j)), eI (if (grun n A n).2.1.length < n then 7 else 0)]) := by
  refine CP_X (F := F) (f := 43) rfl rfl ?_
  have k1 := yfd (by omega) (by omega) (fun h => h) hK hA hb
  have k2 := ymu (n := n) (c := n) (m := m) (A := A) (B := B) (by omega) (by omega) (by omega)
  have k3 := yfd (by omega) (by omega) (fun h => by omega) hK hB hb
  have pl := yfi (grun n A n).2.1
  have tl := yaj n n A
  have gS : ∀ i, i < n → (em rR (tab n (n + m) (grun n (bsd n A B) (n + m)).1))[i]? = some (rR (rowf (n + m) ((grun n (bsd n A B) (n + m)).1 i))) := fun i hi => by
    have := yah (f := rR) (tab n (n + m) (grun n (bsd n A B) (n + m)).1) i (by rw [yaj]; exact hi)
    rwa [ya3 hi] at this
  have dr : ∀ i, List.take (n + m - n) (List.drop n (rowf (n + m) ((grun n (bsd n A B) (n + m)).1 i))) = rowf m (fun j => (grun n (bsd n A B) (n + m)).1 i (n + j)) := fun i => by
    rw [ym2, show n + m - n = m by omega]
    exact List.take_of_length_le (by rw [yap]; omega)
  have rl : ∀ i, (rowf (n + m) ((grun n (bsd n A B) (n + m)).1 i)).length = n + m := fun i => yap _ _
  have sn : ∀ i, tab i m (fun i j => (grun n (bsd n A B) (n + m)).1 i (n + j)) ++ [rowf m (fun j => (grun n (bsd n A B) (n + m)).1 i (n + j))] = tab (i + 1) m (fun i j => (grun n (bsd n A B) (n + m)).1 i (n + j)) := fun i => by simp [tab, List.range_succ]
  generalize (grun n A n).2.1 = piv at *
  generalize (grun n (bsd n A B) (n + m)).2.1 = piv2 at *
  generalize tab n n (grun n A n).1 = SA at *
  generalize (grun n (bsd n A B) (n + m)).1 = S at *
  generalize (fun i j => S i (n + j)) = S' at *
  generalize tab n (n + m) S = TS at *
  generalize tab n (n + m) (bsd n A B) = TAB at *
  generalize tab n n A = TA at *
  generalize tab n m B = TB at *
  clear hA hB hK hb
  by_cases hlt : piv.length < n
  · rw [if_pos hlt, if_pos hlt]
    have c1 := lt_c hlt
    clear hlt gS dr rl sn k2 k3
    refine go3 ?_
    trivial
  · rw [if_neg hlt, if_neg hlt]
    have c1 : ¬ ((piv.length : Int) < (n : Int)) := by omega
    have c2 : (n : Int) ≤ ((n + m : Nat) : Int) := by omega
    clear hlt
    refine go3 ?_
    refine X_up n (fun i s => ∃ j33 v g, s = ⟨[(0, rT TA), (1, rT TB), (4, .nil), (5, eI 0), (7, .lst (ui (ivl piv))), (8, rT TS), (10, .ref 0 v 1 0 i), (11, eI i), (21, .bool false), (33, j33)], some ⟨v, 1, em rR (tab i m S')⟩ :: g⟩) ?_ ?_ 0 (Nat.zero_le _) _ ⟨_, _, [], rfl⟩
    · rintro i s hi ⟨j33, v, g, rfl⟩ rec
      have hlt := lt_c hi
      have g1 := gS i hi
      have d1 := dr i
      have r1 := rl i
      have s1 := sn i
      have bl := yaj i m S'
      have bt : List.take i (tab i m S') = tab i m S' := yag _ bl.symm
      have hlim : i < 5864062014805 := by omega
      have hi6 : i < 9223372036854775807 := by omega
      generalize rowf (n + m) (S i) = R at *
      generalize rowf m (fun j => S i (n + j)) = R' at *
      generalize tab i m S' = T1 at *
      generalize tab (i + 1) m S' = T2 at *
      have hw := yaq hi6
      clear gS dr rl sn k1 k2 k3
      refine go3 ?_
      exact rec _ ⟨_, _, _, rfl⟩
    · rintro s ⟨j33, v, g, rfl⟩
      have hlt : ¬ ((n : Int) < (n : Int)) := nlt_c
      have bl := yaj n m S'
      have bt : List.take n (tab n m S') = tab n m S' := yag _ bl.symm
      generalize tab n m S' = T1 at *
      clear gS dr rl sn k1 k2 k3
      refine go3 ?_
      trivial
set_option maxHeartbeats 4000000
theorem yjv {t : List (List XQ)} (ht : ∀ l ∈ t, ∀ x ∈ l, x.ok) {u' : List (List XQ)} (hu : ∀ l ∈ u', ∀ x ∈ l, x.ok) : CP (CL F) 7 [.lst (em eXL t), .lst (em eXL u')] = some (.bool true) := by
  refine CP_X (F := F) (f := 7) rfl rfl ?_
  obtain ⟨p, p1, p2, p3⟩ := yur ht (most := 4) (by decide)
  replace p3 : CP (CL F) 11 [.lst (em eXL t), eI 4] = some (.tup [eT p, rT p]) := p3
  obtain ⟨q, q1, q2, q3⟩ := yur hu (most := 4) (by decide)
  replace q3 : CP (CL F) 11 [.lst (em eXL u'), eI 4] = some (.tup [eT q, rT q]) := q3
  have lp : p.length ≤ 4 := by omega
  have lq : q.length ≤ 4 := by omega
  have wp : ∀ l : List (List Rat), (∀ r ∈ l, r.length ≤ 4 ∧ ∀ x ∈ r, Lq x ≤ 1) → wide l ≤ 4 := fun l h => by
    unfold wide
    cases l with
    | nil => simp
    | cons r l => exact (h r (List.mem_cons_self ..)).1
  have w1 := wp p p2
  have w2 := wp q q2
  have k1 := yeb (t := p) (by omega)
  have k2 := yeb (t := q) (by omega)
  have kw := y0p p
  have w := yt6
  have same0 : CP (CL F) 21 [.lst [], .lst []] = some (.bool true) := yoj (a := []) (b := []) (by simp) (fun r hr => by cases hr)
  clear wp
  cases hs : shp16 p q true with
  | false =>
    have y1 := ymq (a := p) (b := q) (by omega) (by omega) hs
    have y2 := ymr (a := p) (b := q) (by omega) (by omega) hs
    cases h1 : may p with
    | false =>
      rw [h1, if_neg (by decide)] at k1
      clear hs h1 k2 p1 p2 q1 q2 ht hu
      refine go3 ?_
      trivial
    | true =>
      rw [h1, if_pos rfl] at k1
      cases h2 : may q with
      | false =>
        rw [h2, if_neg (by decide)] at k2
        clear hs h1 h2 p1 p2 q1 q2 ht hu
        refine go3 ?_
        trivial
      | true =>
        rw [h2, if_pos rfl] at k2
        by_cases h3 : p.length = wide p
        · have hl : q.length ≠ p.length := fun h => by
            rw [yb8.2 ⟨h1, h2, h, fun _ => h3.symm⟩] at hs
            cases hs
          have c0 := eq_false (show ¬ ((q.length : Int) = (p.length : Int)) by omega)
          have c1 := eq_true (show ((p.length : Int) = (wide p : Int)) by omega)
          clear hs h1 h2 h3 p1 p2 q1 q2 hl ht hu
          refine go3 ?_
          trivial
        · have c1 := eq_false (show ¬ ((p.length : Int) = (wide p : Int)) by omega)
          clear hs h1 h2 h3 p1 p2 q1 q2 ht hu
          refine go3 ?_
          trivial
  | true =>
    obtain ⟨m1, m2, hl, hwd⟩ := yb8.1 hs
    have hwd := hwd rfl
    rw [m1, if_pos rfl] at k1
    rw [m2, if_pos rfl] at k2
    rcases Nat.eq_zero_or_pos p.length with e | e
    · have ea := List.eq_nil_of_length_eq_zero e
      have eb := List.eq_nil_of_length_eq_zero (show q.length = 0 by omega)
      subst ea
      subst eb
      have y1 := yt8
      have y2 := yt9
      have y3 := ymt
      have y4 : CP (CL F) 18 [.lst [], .lst []] = some (eI 1) := y0r (a := []) (q := []) (by simp) (fun r hr => by cases hr) (fun r hr => by cases hr)
      change CP (CL F) _ [eT [], eT []] = _ at y1
      change CP (CL F) _ [eT [], eT []] = _ at y2
      change CP (CL F) _ [rT [], rT []] = _ at y3
      have z2 : wide ([] : List (List Rat)) = 0 := rfl
      rw [z2] at kw
      clear hs m1 m2 hl hwd p1 p2 q1 q2 ht hu e z2 w1 w2 lp lq
      refine go3 ?_
      trivial
    · have hs2 : shp16 p q false = true := yb8.2 ⟨m1, m2, hl, fun h => by cases h⟩
      have I := In16.mk' hs2 (fun r hr => (p2 r hr).2) (fun r hr => (q2 r hr).2)
      have c0 := eq_true (show ((q.length : Int) = (p.length : Int)) by omega)
      have c1 := eq_true (show ((p.length : Int) = (wide p : Int)) by omega)
      rw [hwd] at I w1
      rw [hwd] at kw
      generalize ent p = A at *
      generalize ent q = B at *
      generalize hn : p.length = n at *
      generalize wide q = m at *
      have hpow : 1 * 5 ^ n ≤ 625 := by
        have : 5 ^ n ≤ 5 ^ 4 := Nat.pow_le_pow_right (by decide) lp
        omega
      have hAB := I.hAB
      have gA : GB n n 625 A := GB_le (Nat.le_refl 1) I.hA hpow
      have rr := y0q (yyr (n := n) (c := n) (A := A) (by omega) (by omega) (fun h => h) (M := 625) (by decide) gA)
      rw [yfi, ← I.hp] at rr
      have y3 := yrr (n := n) (m := m) (A := A) (B := B) (K := 1) e (by omega) (by omega) (Nat.le_refl 1) I.hA hAB (by omega)
      rw [← I.hp, ← I.hq] at y3
      rcases ywi (n := n) (m := m) (A := A) (B := B) e (by omega) (by omega) hAB with ⟨hr, y2⟩ | ⟨hr, X, hX, hXs, y2⟩
      · rw [← I.hp, ← I.hq] at y2
        rw [if_pos hr, if_pos hr] at y3
        have i1 := yjr (t := p) (by omega) ⟨m1, by rw [hn]; exact hwd.symm⟩ rr (by rw [hn]; omega)
        have y1 := yk6 (a := p) (b := q) (by omega) (by omega) hs i1
        clear hs hs2 m1 m2 hl hwd p1 p2 q1 q2 ht hu I gA rr hr hAB hpow i1 w1 w2 lp lq e
        refine go3 ?_
        trivial
      · rw [← I.hp, ← I.hq] at y2
        rw [if_neg (by omega), if_neg (by omega)] at y3
        rw [hr] at rr
        have hB2 : ∀ r, r < n → ∀ y, y < n + n → Lq (bes n A r y) ≤ 1 := fun r hr y hy => by
          unfold bes
          split
          · next h => exact I.hA r hr y h
          · unfold idm
            split
            · exact yxu
            · exact ymg
        have gB : GB n (n + n) 625 (bes n A) := GB_le (Nat.le_refl 1) hB2 hpow
        have i1 := yup e (by omega) (M := 625) (by decide) gB (by rw [← I.hp]; exact rr)
        rw [← I.hp] at i1
        have sI : Sz 625 (tab n n (invM n A)) := fun r hr q hq => by
          obtain ⟨i, hi, j, hj, rfl⟩ := yho hr hq
          exact (gB n (by omega)).1 i hi (n + j) (by omega)
        have sB : Sz 625 (tab n m B) := fun r hr q hq => by
          obtain ⟨i, hi, j, hj, rfl⟩ := yho hr hq
          have := I.hB i hi j hj
          omega
        have mu := (y17 (A := invM n A) (B := B) (n := n) (m := n) (k := m) (by omega) (by omega) (by omega) (fun h => h) (fun h => by omega) (M := 625) (by decide) sI sB).1
        have eX1 : tab n m (mm n (invM n A) B) = tab n m X := yfs fun i hi j hj => by
          rw [← yd6 (m := m) hr (yr5 hr j) hi, yd6 (m := m) hr (hX j hj) hi]
        have eX2 : tab n m (fun i j => (grun n (bsd n A B) (n + m)).1 i (n + j)) = tab n m X := yfs fun i hi j hj => yd6 (m := m) hr (hX j hj) hi
        rw [eX1, ← I.hq] at mu
        rw [eX2] at y3
        have y1 := yyl (a := p) (b := q) (by omega) (by omega) hs (by omega) i1 mu
        have sX : ∀ r ∈ tab n m X, r.length ≤ 1000000 ∧ ∀ q ∈ r, Lq q < 100000000 := fun r hr => ⟨by rw [yh4 r hr]; omega, fun q hq => by
          obtain ⟨i, hi, j, hj, rfl⟩ := yho hr hq
          have := hXs i hi j hj
          omega⟩
        have s1 := yoj (a := tab n m X) (b := tab n m X) (by rw [yaj]; omega) sX
        rw [decide_eq_true rfl] at s1
        have s2 := y0r (a := tab n m X) (q := tab n m X) (by rw [yaj]; omega) sX fun r hr => (sX r hr).2
        rw [if_pos rfl] at s2
        generalize tab n m X = TX at *
        clear hs hs2 m1 m2 hl hwd p1 p2 q1 q2 ht hu I gA rr hr hAB hpow i1 mu eX1 eX2 sX sI sB gB hB2 hX hXs w1 w2 lp lq e
        refine go3 ?_
        trivial
end Go.S

end
