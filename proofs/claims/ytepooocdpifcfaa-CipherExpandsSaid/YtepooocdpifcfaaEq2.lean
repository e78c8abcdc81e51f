/- Arrays of rows of bytes held against each other. No condition. -/
import Derived.Test.YtepooocdpifcfaaSt
namespace Go.Proofs.Ytepooocdpifcfaa
open Go.RowKit

section
variable {P : Program} {w : World}
theorem run_part_rows (e : TypeId) (N m : Nat) (f : Nat → UInt8) (o : Nat) (ha : (isAgg e).run P w = .ok true w) (hs : (sizeOf e).run P w = .ok m w) (h : o + m ≤ N) : (part e (blk N f) o).run P w = .ok (.agg (blk m fun j => f (o + j))) w := by
  have hc := cut_blk N f o (o + m) h
  unfold cut at hc
  rw [show o + m - o = m by omega] at hc
  simp [part, Sem.run_bind, ha, hs, hc]
theorem same_rows (n m : Nat) (f g : Nat → UInt8) : same (n * m) f g = true ↔ ∀ i, i < n → same m (fun j => f (i * m + j)) (fun j => g (i * m + j)) = true := by
  rw [same_iff]
  constructor
  · intro h i hi
    rw [same_iff]
    intro j hj
    refine h _ ?_
    have : (i + 1) * m ≤ n * m := Nat.mul_le_mul_right m hi
    rw [Nat.add_mul, Nat.one_mul] at this
    omega
  · intro h k hk
    have hm : 0 < m := by
      rcases Nat.eq_zero_or_pos m with rfl | h
      · simp at hk
      · exact h
    have hi : k / m < n := (Nat.div_lt_iff_lt_mul hm).2 hk
    have h1 := (same_iff _ _ _).1 (h _ hi) (k % m) (Nat.mod_lt _ hm)
    rwa [Nat.mul_comm, Nat.div_add_mod] at h1
theorem run_equalIn_rows (d : Nat) (t e2 : TypeId) (n m : Nat) (f g : Nat → UInt8) (hu : P.underlying t = some (.array n (P.elem t))) (hz : (sizeOf (P.elem t)).run P w = .ok m w) (hag : (isAgg (P.elem t)).run P w = .ok true w)
    (hu2 : P.underlying (P.elem t) = some (.array m e2)) (he2 : P.elem (P.elem t) = e2) (hz2 : (sizeOf e2).run P w = .ok 1 w) (ha : P.underlying e2 = some (.int .u8)) :
    (Op.equalIn (d + 3) t (.agg (blk (n * m) f)) (.agg (blk (n * m) g))).run P w = .ok (same (n * m) f g) w := by
  subst he2
  rw [Op.equalIn]
  simp only [Sem.run_bind, run_underlying hu, Result.andThen_ok, hz]
  rw [run_all_range n (fun i => same m (fun j => f (i * m + j)) (fun j => g (i * m + j))) _ (fun i hi => by
    have hle : i * m + m ≤ n * m := by
      have : (i + 1) * m ≤ n * m := Nat.mul_le_mul_right m hi
      rwa [Nat.add_mul, Nat.one_mul] at this
    simp only [Sem.run_bind, run_part_rows (P.elem t) (n * m) m _ (i * m) hag hz hle, Result.andThen_ok, run_equalIn_blk d (P.elem t) m _ _ w hu2 hz2 ha]
    cases same m (fun j => f (i * m + j)) (fun j => g (i * m + j)) <;> simp)]
  by_cases h : ∀ i, i < n → same m (fun j => f (i * m + j)) (fun j => g (i * m + j)) = true
  · rw [if_pos h, (same_rows n m f g).2 h]; rfl
  · rw [if_neg h]
    have hh : same (n * m) f g = false := by
      cases hs : same (n * m) f g with
      | false => rfl
      | true => exact (h ((same_rows n m f g).1 hs)).elim
    rw [hh]; rfl
theorem eql_quiet2 {o : Oper} {a : Act} {C : World → Prop} {n m : Nat} {f g : Nat → UInt8} {b : Bool} (ty e2 : TypeId) {x y : Operand} {rt : TypeId} (N : Nat) (ho : o.op = .binOp .eql ty x y rt) (hx : a.eval x = .agg (blk N f)) (hy : a.eval y = .agg (blk N g)) (hN : N = n * m)
    (hg : P.eqGuardType P.depth ty = false) (hu : P.underlying ty = some (.array n (P.elem ty))) (hz : (sizeOf (P.elem ty)).run P w = .ok m w) (hag : (isAgg (P.elem ty)).run P w = .ok true w)
    (hu2 : P.underlying (P.elem ty) = some (.array m e2)) (he2 : P.elem (P.elem ty) = e2) (hz2 : (sizeOf e2).run P w = .ok 1 w) (ha : P.underlying e2 = some (.int .u8)) (hs : same N f g = b) : o.quietAt P a C w (.bool b) := by
  subst hN
  unfold Oper.quietAt execOp
  simp only [ho, hx, hy]
  have h1 : (eqGuard .eql ty x y (.agg (blk (n * m) f)) (.agg (blk (n * m) g))).run P w = .ok () w := run_eqGuard_agg (hm := hg) ..
  have h2 : (binOp .eql ty (.agg (blk (n * m) f)) (.agg (blk (n * m) g))).run P w = .ok (.bool (same (n * m) f g)) w := by
    rw [run_eql_struct, run_equalIn_rows 9997 ty e2 n m f g hu hz hag hu2 he2 hz2 ha]; rfl
  simp only [Sem.run_bind, h1, Result.andThen_ok, h2, Sem.run_pure, hs]
  exact ⟨rfl, rfl⟩
end
end Go.Proofs.Ytepooocdpifcfaa
