/- A word more for the walks: make([]T, 0, n) is an empty row of the call's own. -/
import Derived.OwnWalk
import Derived.Test.YtpjephicbiiamaaWMore
namespace Go.Proofs.YtpjephicbiiamaaW.PrintWords
open Go.RowKit
set_option linter.unusedVariables false
theorem lenEq_ {α : Type} {Rr : α → List Value → Prop} {sz n m : Nat} {w : World} {A : Option Addr} {xs : List α} (h : n = m) (k : ReadsRow Rr sz w A n xs) : ReadsRow Rr sz w A m xs := h ▸ k
theorem drewN_cell_ {w w1 : World} {n : Nat} (h : w.drewN n = w1) {a : Addr} {v : Value} (hc : w.cell? a = some v) : w1.cell? a = some v := by subst h; exact hc
theorem drewN_frozen_ {w w1 : World} {n : Nat} (h : w.drewN n = w1) {a : Addr} {b : Bool} (hc : w.frozen? a = b) : w1.frozen? a = b := by subst h; exact hc
namespace Kd
section
variable {P : Program} {ops : Array Oper} {rest : List Oper} {o : Oper} {a : Act} {Q : Exit → Act → World → Prop} {α : Type}
theorem R_make0 (d : Kd α) {w0 W : World} (base e : Nat) (hgd : o.guard = none) {N : Tmp} (_hd : o.dst = some N) (t : TypeId) (x y : Operand) (ho : o.op = .makeSlice t x y) (n : Int) (hx : a.eval x = .int .i64 0) (hy : a.eval y = .int .i64 n)
    (ht : P.underlying t = some (.slice e)) (z : Value) (bytes : Nat) (hinfo : (P.info? e).map (fun i => (i.zero, i.size, i.bytes)) = some (some z, d.sz, bytes)) (hb0 : 0 < bytes)
    {ok : Nat → Prop} (hfresh : ok W.heap.size) (h0 : 0 ≤ n) (hl : n.toNat * bytes ≤ 281474976710656) (HB : Below base w0 W) (hbase : base ≤ W.heap.size)
    (h : ∀ v1 w1, d.R e w1 base ok v1 [] → Below base w0 w1 → W.grownBy w1 none → (∃ b, v1.ownBlock = some b ∧ W.heap.size ≤ b) → wpList P ops Q rest (a.put o.dst v1) w1) : wpList P ops Q (o :: rest) a W := by
  obtain ⟨m, rfl⟩ := Int.eq_ofNat_of_zero_le h0
  simp only [Int.toNat_natCast] at hl
  obtain ⟨i0, hi, hzz⟩ := Option.map_eq_some_iff.1 hinfo
  simp only [Prod.mk.injEq] at hzz
  obtain ⟨hz0, hz1, hz2⟩ := hzz
  have hm : m ≤ 281474976710656 := Nat.le_trans (Nat.le_mul_of_pos_right _ hb0) hl
  refine wpList_make_own W hgd x y t ho base e i0 z d.sz ht hi hz0 hz1 .i64 .i64 (m : Int) m hx hy rfl (by rw [hz2, Nat.mul_comm]; exact hl) (by unfold maxLen; omega) hbase (fun w' hr hg => h _ _ ⟨fun k hk => ?_, [], hr, ?_⟩ (pw_below_grown HB none hbase hg (by simp)) hg ⟨W.heap.size, by simp [Value.ownBlock], Nat.le_refl _⟩)
  · have : W.heap.size = k := by simpa [Value.ownBlock] using hk
    subst this
    exact hfresh
  · exact ⟨by simp, fun j p hj => by simp at hj⟩
end
end Kd
end Go.Proofs.YtpjephicbiiamaaW.PrintWords
