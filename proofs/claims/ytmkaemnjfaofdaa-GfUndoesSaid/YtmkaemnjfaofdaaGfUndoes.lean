/- GfUndoes returns true at every two bytes, every two columns. No condition. -/
import Derived.Test.YtmkaemnjfaofdaaGfAwake
import Derived.Test.YtmkaemnjfaofdaaStores
import Derived.Test.YtmkaemnjfaofdaaCiPlain
namespace Go.Proofs.Ytmkaemnjfaofdaa
open Go.RowKit
attribute [local go_sem] B_xor B_or B_and
attribute [local go_sem] blk_set blk_size blk_get blk_getE upd_same oneCells_blk paste_blk cut_blk szOf
attribute [local go_sem high] paste_all cut_head
attribute [local go_sem] rowAt_alloc rowAt_drew rowAt_drewN isRow_alloc isRow_drew isRow_drewN freeRow_alloc freeRow_end freeRow_drew freeRow_drewN
attribute [local go_sem] setRow_alloc setRow_drew setRow_drewN setCell_drewN alloc_drewN rowAt_setRow isRow_setRow freeRow_setRow
attribute [local go_sem ↓] loadS_in storeS_in indexS_in copyS_in
attribute [local go_sem] loadS_row loadS_one storeS_row storeS_one indexS_blk copyS_rows run_equalIn_blk same_refl arrayAt_row
attribute [local go_sem] cell_row frozen_row st_setCell st_blk_ne stepAt stepUpon
attribute [local go_sem high] run_eql_blk run_neq_blk

theorem Pur.down {P : Program} {f : FuncId} {args : Array Value} {v : Value} (h : Pur P f args v) (w : World) : Calls P f args w fun e w' => e = .returned v ∧ Below w.heap.size w w' :=
  (h w).mono fun _ _ ⟨a, n, b⟩ => ⟨a, b ▸ drewN_below w n⟩
theorem xor8 (a b c d e f g h : UInt8) : (a ^^^ b) ^^^ (c ^^^ d) ^^^ (e ^^^ f) ^^^ (g ^^^ h) = (a ^^^ c ^^^ e ^^^ g) ^^^ (b ^^^ d ^^^ f ^^^ h) := by ac_rfl
theorem mix_add (c d : Nat → UInt8) (i : Nat) : Gf.mix (Ci.xorB c d) i = Gf.mix c i ^^^ Gf.mix d i := by
  unfold Gf.mix Ci.xorB
  rw [Gf.mul_xor_right, Gf.mul_xor_right]
  exact xor8 _ _ _ _ _ _ _ _
def mulC (k : UInt8) (c : Nat → UInt8) : Nat → UInt8 := fun i => Gf.mul k (c i)
theorem mix_mul (k : UInt8) (c : Nat → UInt8) (i : Nat) : Gf.mix (mulC k c) i = Gf.mul k (Gf.mix c i) := by
  unfold Gf.mix mulC
  rw [Gf.mul_xor_right, Gf.mul_xor_right, Gf.mul_xor_right, ← Gf.mul_assoc, ← Gf.mul_assoc, ← Gf.mul_assoc, ← Gf.mul_assoc, Gf.mul_comm 2 k, Gf.mul_comm 3 k]
def toK (g : Nat → UInt8) (k : Nat) : Nat → UInt8 := fun i => if i < k then g i else 0
theorem toK_zero (n : Nat) (g : Nat → UInt8) : blk n (toK g 0) = blk n (fun _ => 0) := blk_congr fun i _ => by simp [toK]
theorem toK_all (n : Nat) (g : Nat → UInt8) : blk n (toK g n) = blk n g := blk_congr fun i hi => by simp [toK, hi]
theorem toK_next (n : Nat) (g : Nat → UInt8) (k : Nat) : blk n (upd (toK g k) k (g k)) = blk n (toK g (k + 1)) := blk_congr fun i _ => by
  unfold upd toK
  by_cases h : i = k
  · subst h; simp
  · by_cases h2 : i < k
    · have h3 : i < k + 1 := by omega
      simp [h, h2, h3]
    · have h3 : ¬ i < k + 1 := by omega
      simp [h, h2, h3]
def snd4 (c : Nat → UInt8) : Nat → UInt8 := fun j => c (4 + j)
theorem zero4' : #[Value.int .u8 0, .int .u8 0, .int .u8 0, .int .u8 0] = blk 4 (fun _ => 0) := by kernel_rfl
theorem St.head1 {w0 a : World} {g : Nat} {c : Array Value} {L : List (Nat × Array Value)} (h : St w0 ((g, c) :: L) a) : rowAt a g = c ∧ freeRow a g = true ∧ isRow a g = true ∧ w0.heap.size ≤ g ∧ g < a.heap.size := h.at (by simp)
set_option maxRecDepth 100000 in
set_option maxHeartbeats 8000000 in
theorem gfUndoes_walk (a c : Nat → UInt8) (w : World) : Calls Try.prog 7 #[.agg (blk 2 a), .agg (blk 8 c)] w fun e w' => e = .returned (.bool true) ∧ Below w.heap.size w w' := by
  have hz := zero4'
  have hsn : (fun j => c (4 + j)) = snd4 c := rfl
  have f1 := Gf.unbox_box (a 0)
  have f2 := Gf.box_unbox (a 0)
  have f3 : (B (Gf.box (a 0)) == B (Gf.box (a 1))) = (B (a 0) == B (a 1)) := by
    rw [Bool.eq_iff_iff, beq_iff_eq, beq_iff_eq, B_eq, B_eq]; exact Gf.box_inj _ _
  have f4 : (B (Gf.box (a 0)) == B (a 0)) = false := beq_eq_false_iff_ne.2 fun e => Gf.box_ne _ (B_inj e)
  go_enter Try.func7, Try.ntmps7
  go_wp2_with fail
  have HC := Lib.hid ((((St.nil w).pushA (blk 2 a) 35 rfl).pushA (blk 8 c) 36 (g := w.heap.size + 1) (by simp)))
  refine St.region HC.out (by kernel_rfl) (by kernel_rfl) ?_
  (first
     | (apply head_skip rfl)
     | (apply head_step_g rfl
        focus
          intro w0 hC
          (exact neq_quiet 29 rfl rfl rfl Try.eqGuardType29 Try.underlying29 (by simp [go_sem]) (by simp [go_sem]) (by with_reducible assumption)))
     | (apply head_step_g rfl
        focus
          intro w0 hC
          have hC' := Lib.hid hC
          obtain ⟨⟨r1, f1, i1, b1, l1⟩, ⟨r2, f2, i2, b2, l2⟩, m12, m21⟩ := St.facts2 hC
          clear hC
          go_simp
          have hC := hC'.out
          (first
             | with_reducible rfl
             | ((first
                 | (go_at_call 15; refine (Pur.down (box_pur _) _).mono ?_)
                 | (go_at_call 19; refine (Pur.down (unbox_pur _) _).mono ?_)
                 | (go_at_call 8; refine (Pur.down (mul_pur _ _) _).mono ?_)
                 | (go_at_call 17; refine (mix_any _ _).mono ?_)
                 | (go_at_call 20; refine (unmix_any _ _).mono ?_))
                rintro e w' ⟨rfl, hw⟩
                exact ⟨rfl, St.call (by assumption) hw⟩)))
   try simp only [Act.put, List.setIfInBounds_toArray, List.set])
  (first
     | (apply head_skip rfl)
     | (apply head_step_g rfl
        focus
          intro w0 hC
          (exact neq_quiet 29 rfl rfl rfl Try.eqGuardType29 Try.underlying29 (by simp [go_sem]) (by simp [go_sem]) (by with_reducible assumption)))
     | (apply head_step_g rfl
        focus
          intro w0 hC
          have hC' := Lib.hid hC
          obtain ⟨⟨r1, f1, i1, b1, l1⟩, ⟨r2, f2, i2, b2, l2⟩, m12, m21⟩ := St.facts2 hC
          clear hC
          go_simp
          have hC := hC'.out
          (first
             | with_reducible rfl
             | ((first
                 | (go_at_call 15; refine (Pur.down (box_pur _) _).mono ?_)
                 | (go_at_call 19; refine (Pur.down (unbox_pur _) _).mono ?_)
                 | (go_at_call 8; refine (Pur.down (mul_pur _ _) _).mono ?_)
                 | (go_at_call 17; refine (mix_any _ _).mono ?_)
                 | (go_at_call 20; refine (unmix_any _ _).mono ?_))
                rintro e w' ⟨rfl, hw⟩
                exact ⟨rfl, St.call (by assumption) hw⟩)))
   try simp only [Act.put, List.setIfInBounds_toArray, List.set])
  (first
     | (apply head_skip rfl)
     | (apply head_step_g rfl
        focus
          intro w0 hC
          (exact neq_quiet 29 rfl rfl rfl Try.eqGuardType29 Try.underlying29 (by simp [go_sem]) (by simp [go_sem]) (by with_reducible assumption)))
     | (apply head_step_g rfl
        focus
          intro w0 hC
          have hC' := Lib.hid hC
          obtain ⟨⟨r1, f1, i1, b1, l1⟩, ⟨r2, f2, i2, b2, l2⟩, m12, m21⟩ := St.facts2 hC
          clear hC
          go_simp
          have hC := hC'.out
          (first
             | with_reducible rfl
             | ((first
                 | (go_at_call 15; refine (Pur.down (box_pur _) _).mono ?_)
                 | (go_at_call 19; refine (Pur.down (unbox_pur _) _).mono ?_)
                 | (go_at_call 8; refine (Pur.down (mul_pur _ _) _).mono ?_)
                 | (go_at_call 17; refine (mix_any _ _).mono ?_)
                 | (go_at_call 20; refine (unmix_any _ _).mono ?_))
                rintro e w' ⟨rfl, hw⟩
                exact ⟨rfl, St.call (by assumption) hw⟩)))
   try simp only [Act.put, List.setIfInBounds_toArray, List.set])
  (first
     | (apply head_skip rfl)
     | (apply head_step_g rfl
        focus
          intro w0 hC
          (exact neq_quiet 29 rfl rfl rfl Try.eqGuardType29 Try.underlying29 (by simp [go_sem]) (by simp [go_sem]) (by with_reducible assumption)))
     | (apply head_step_g rfl
        focus
          intro w0 hC
          have hC' := Lib.hid hC
          obtain ⟨⟨r1, f1, i1, b1, l1⟩, ⟨r2, f2, i2, b2, l2⟩, m12, m21⟩ := St.facts2 hC
          clear hC
          go_simp
          have hC := hC'.out
          (first
             | with_reducible rfl
             | ((first
                 | (go_at_call 15; refine (Pur.down (box_pur _) _).mono ?_)
                 | (go_at_call 19; refine (Pur.down (unbox_pur _) _).mono ?_)
                 | (go_at_call 8; refine (Pur.down (mul_pur _ _) _).mono ?_)
                 | (go_at_call 17; refine (mix_any _ _).mono ?_)
                 | (go_at_call 20; refine (unmix_any _ _).mono ?_))
                rintro e w' ⟨rfl, hw⟩
                exact ⟨rfl, St.call (by assumption) hw⟩)))
   try simp only [Act.put, List.setIfInBounds_toArray, List.set])
  (first
     | (apply head_skip rfl)
     | (apply head_step_g rfl
        focus
          intro w0 hC
          (exact neq_quiet 29 rfl rfl rfl Try.eqGuardType29 Try.underlying29 (by simp [go_sem]) (by simp [go_sem]) (by with_reducible assumption)))
     | (apply head_step_g rfl
        focus
          intro w0 hC
          have hC' := Lib.hid hC
          obtain ⟨⟨r1, f1, i1, b1, l1⟩, ⟨r2, f2, i2, b2, l2⟩, m12, m21⟩ := St.facts2 hC
          clear hC
          go_simp
          have hC := hC'.out
          (first
             | with_reducible rfl
             | ((first
                 | (go_at_call 15; refine (Pur.down (box_pur _) _).mono ?_)
                 | (go_at_call 19; refine (Pur.down (unbox_pur _) _).mono ?_)
                 | (go_at_call 8; refine (Pur.down (mul_pur _ _) _).mono ?_)
                 | (go_at_call 17; refine (mix_any _ _).mono ?_)
                 | (go_at_call 20; refine (unmix_any _ _).mono ?_))
                rintro e w' ⟨rfl, hw⟩
                exact ⟨rfl, St.call (by assumption) hw⟩)))
   try simp only [Act.put, List.setIfInBounds_toArray, List.set])
  (first
     | (apply head_skip rfl)
     | (apply head_step_g rfl
        focus
          intro w0 hC
          (exact neq_quiet 29 rfl rfl rfl Try.eqGuardType29 Try.underlying29 (by simp [go_sem]) (by simp [go_sem]) (by with_reducible assumption)))
     | (apply head_step_g rfl
        focus
          intro w0 hC
          have hC' := Lib.hid hC
          obtain ⟨⟨r1, f1, i1, b1, l1⟩, ⟨r2, f2, i2, b2, l2⟩, m12, m21⟩ := St.facts2 hC
          clear hC
          go_simp
          have hC := hC'.out
          (first
             | with_reducible rfl
             | ((first
                 | (go_at_call 15; refine (Pur.down (box_pur _) _).mono ?_)
                 | (go_at_call 19; refine (Pur.down (unbox_pur _) _).mono ?_)
                 | (go_at_call 8; refine (Pur.down (mul_pur _ _) _).mono ?_)
                 | (go_at_call 17; refine (mix_any _ _).mono ?_)
                 | (go_at_call 20; refine (unmix_any _ _).mono ?_))
                rintro e w' ⟨rfl, hw⟩
                exact ⟨rfl, St.call (by assumption) hw⟩)))
   try simp only [Act.put, List.setIfInBounds_toArray, List.set])
  (first
     | (apply head_skip rfl)
     | (apply head_step_g rfl
        focus
          intro w0 hC
          (exact neq_quiet 29 rfl rfl rfl Try.eqGuardType29 Try.underlying29 (by simp [go_sem]) (by simp [go_sem]) (by with_reducible assumption)))
     | (apply head_step_g rfl
        focus
          intro w0 hC
          have hC' := Lib.hid hC
          obtain ⟨⟨r1, f1, i1, b1, l1⟩, ⟨r2, f2, i2, b2, l2⟩, m12, m21⟩ := St.facts2 hC
          clear hC
          go_simp
          have hC := hC'.out
          (first
             | with_reducible rfl
             | ((first
                 | (go_at_call 15; refine (Pur.down (box_pur _) _).mono ?_)
                 | (go_at_call 19; refine (Pur.down (unbox_pur _) _).mono ?_)
                 | (go_at_call 8; refine (Pur.down (mul_pur _ _) _).mono ?_)
                 | (go_at_call 17; refine (mix_any _ _).mono ?_)
                 | (go_at_call 20; refine (unmix_any _ _).mono ?_))
                rintro e w' ⟨rfl, hw⟩
                exact ⟨rfl, St.call (by assumption) hw⟩)))
   try simp only [Act.put, List.setIfInBounds_toArray, List.set])
  (first
     | (apply head_skip rfl)
     | (apply head_step_g rfl
        focus
          intro w0 hC
          (exact neq_quiet 29 rfl rfl rfl Try.eqGuardType29 Try.underlying29 (by simp [go_sem]) (by simp [go_sem]) (by with_reducible assumption)))
     | (apply head_step_g rfl
        focus
          intro w0 hC
          have hC' := Lib.hid hC
          obtain ⟨⟨r1, f1, i1, b1, l1⟩, ⟨r2, f2, i2, b2, l2⟩, m12, m21⟩ := St.facts2 hC
          clear hC
          go_simp
          have hC := hC'.out
          (first
             | with_reducible rfl
             | ((first
                 | (go_at_call 15; refine (Pur.down (box_pur _) _).mono ?_)
                 | (go_at_call 19; refine (Pur.down (unbox_pur _) _).mono ?_)
                 | (go_at_call 8; refine (Pur.down (mul_pur _ _) _).mono ?_)
                 | (go_at_call 17; refine (mix_any _ _).mono ?_)
                 | (go_at_call 20; refine (unmix_any _ _).mono ?_))
                rintro e w' ⟨rfl, hw⟩
                exact ⟨rfl, St.call (by assumption) hw⟩)))
   try simp only [Act.put, List.setIfInBounds_toArray, List.set])
  (first
     | (apply head_skip rfl)
     | (apply head_step_g rfl
        focus
          intro w0 hC
          (exact neq_quiet 29 rfl rfl rfl Try.eqGuardType29 Try.underlying29 (by simp [go_sem]) (by simp [go_sem]) (by with_reducible assumption)))
     | (apply head_step_g rfl
        focus
          intro w0 hC
          have hC' := Lib.hid hC
          obtain ⟨⟨r1, f1, i1, b1, l1⟩, ⟨r2, f2, i2, b2, l2⟩, m12, m21⟩ := St.facts2 hC
          clear hC
          go_simp
          have hC := hC'.out
          (first
             | with_reducible rfl
             | ((first
                 | (go_at_call 15; refine (Pur.down (box_pur _) _).mono ?_)
                 | (go_at_call 19; refine (Pur.down (unbox_pur _) _).mono ?_)
                 | (go_at_call 8; refine (Pur.down (mul_pur _ _) _).mono ?_)
                 | (go_at_call 17; refine (mix_any _ _).mono ?_)
                 | (go_at_call 20; refine (unmix_any _ _).mono ?_))
                rintro e w' ⟨rfl, hw⟩
                exact ⟨rfl, St.call (by assumption) hw⟩)))
   try simp only [Act.put, List.setIfInBounds_toArray, List.set])
  (first
     | (apply head_skip rfl)
     | (apply head_step_g rfl
        focus
          intro w0 hC
          (exact neq_quiet 29 rfl rfl rfl Try.eqGuardType29 Try.underlying29 (by simp [go_sem]) (by simp [go_sem]) (by with_reducible assumption)))
     | (apply head_step_g rfl
        focus
          intro w0 hC
          have hC' := Lib.hid hC
          obtain ⟨⟨r1, f1, i1, b1, l1⟩, ⟨r2, f2, i2, b2, l2⟩, m12, m21⟩ := St.facts2 hC
          clear hC
          go_simp
          have hC := hC'.out
          (first
             | with_reducible rfl
             | ((first
                 | (go_at_call 15; refine (Pur.down (box_pur _) _).mono ?_)
                 | (go_at_call 19; refine (Pur.down (unbox_pur _) _).mono ?_)
                 | (go_at_call 8; refine (Pur.down (mul_pur _ _) _).mono ?_)
                 | (go_at_call 17; refine (mix_any _ _).mono ?_)
                 | (go_at_call 20; refine (unmix_any _ _).mono ?_))
                rintro e w' ⟨rfl, hw⟩
                exact ⟨rfl, St.call (by assumption) hw⟩)))
   try simp only [Act.put, List.setIfInBounds_toArray, List.set])
  (first
     | (apply head_skip rfl)
     | (apply head_step_g rfl
        focus
          intro w0 hC
          (exact neq_quiet 29 rfl rfl rfl Try.eqGuardType29 Try.underlying29 (by simp [go_sem]) (by simp [go_sem]) (by with_reducible assumption)))
     | (apply head_step_g rfl
        focus
          intro w0 hC
          have hC' := Lib.hid hC
          obtain ⟨⟨r1, f1, i1, b1, l1⟩, ⟨r2, f2, i2, b2, l2⟩, m12, m21⟩ := St.facts2 hC
          clear hC
          go_simp
          have hC := hC'.out
          (first
             | with_reducible rfl
             | ((first
                 | (go_at_call 15; refine (Pur.down (box_pur _) _).mono ?_)
                 | (go_at_call 19; refine (Pur.down (unbox_pur _) _).mono ?_)
                 | (go_at_call 8; refine (Pur.down (mul_pur _ _) _).mono ?_)
                 | (go_at_call 17; refine (mix_any _ _).mono ?_)
                 | (go_at_call 20; refine (unmix_any _ _).mono ?_))
                rintro e w' ⟨rfl, hw⟩
                exact ⟨rfl, St.call (by assumption) hw⟩)))
   try simp only [Act.put, List.setIfInBounds_toArray, List.set])
  (first
     | (apply head_skip rfl)
     | (apply head_step_g rfl
        focus
          intro w0 hC
          (exact neq_quiet 29 rfl rfl rfl Try.eqGuardType29 Try.underlying29 (by simp [go_sem]) (by simp [go_sem]) (by with_reducible assumption)))
     | (apply head_step_g rfl
        focus
          intro w0 hC
          have hC' := Lib.hid hC
          obtain ⟨⟨r1, f1, i1, b1, l1⟩, ⟨r2, f2, i2, b2, l2⟩, m12, m21⟩ := St.facts2 hC
          clear hC
          go_simp
          have hC := hC'.out
          (first
             | with_reducible rfl
             | ((first
                 | (go_at_call 15; refine (Pur.down (box_pur _) _).mono ?_)
                 | (go_at_call 19; refine (Pur.down (unbox_pur _) _).mono ?_)
                 | (go_at_call 8; refine (Pur.down (mul_pur _ _) _).mono ?_)
                 | (go_at_call 17; refine (mix_any _ _).mono ?_)
                 | (go_at_call 20; refine (unmix_any _ _).mono ?_))
                rintro e w' ⟨rfl, hw⟩
                exact ⟨rfl, St.call (by assumption) hw⟩)))
   try simp only [Act.put, List.setIfInBounds_toArray, List.set])
  (first
     | (apply head_skip rfl)
     | (apply head_step_g rfl
        focus
          intro w0 hC
          (exact neq_quiet 29 rfl rfl rfl Try.eqGuardType29 Try.underlying29 (by simp [go_sem]) (by simp [go_sem]) (by with_reducible assumption)))
     | (apply head_step_g rfl
        focus
          intro w0 hC
          have hC' := Lib.hid hC
          obtain ⟨⟨r1, f1, i1, b1, l1⟩, ⟨r2, f2, i2, b2, l2⟩, m12, m21⟩ := St.facts2 hC
          clear hC
          go_simp
          have hC := hC'.out
          (first
             | with_reducible rfl
             | ((first
                 | (go_at_call 15; refine (Pur.down (box_pur _) _).mono ?_)
                 | (go_at_call 19; refine (Pur.down (unbox_pur _) _).mono ?_)
                 | (go_at_call 8; refine (Pur.down (mul_pur _ _) _).mono ?_)
                 | (go_at_call 17; refine (mix_any _ _).mono ?_)
                 | (go_at_call 20; refine (unmix_any _ _).mono ?_))
                rintro e w' ⟨rfl, hw⟩
                exact ⟨rfl, St.call (by assumption) hw⟩)))
   try simp only [Act.put, List.setIfInBounds_toArray, List.set])
  (first
     | (apply head_skip rfl)
     | (apply head_step_g rfl
        focus
          intro w0 hC
          (exact neq_quiet 29 rfl rfl rfl Try.eqGuardType29 Try.underlying29 (by simp [go_sem]) (by simp [go_sem]) (by with_reducible assumption)))
     | (apply head_step_g rfl
        focus
          intro w0 hC
          have hC' := Lib.hid hC
          obtain ⟨⟨r1, f1, i1, b1, l1⟩, ⟨r2, f2, i2, b2, l2⟩, m12, m21⟩ := St.facts2 hC
          clear hC
          go_simp
          have hC := hC'.out
          (first
             | with_reducible rfl
             | ((first
                 | (go_at_call 15; refine (Pur.down (box_pur _) _).mono ?_)
                 | (go_at_call 19; refine (Pur.down (unbox_pur _) _).mono ?_)
                 | (go_at_call 8; refine (Pur.down (mul_pur _ _) _).mono ?_)
                 | (go_at_call 17; refine (mix_any _ _).mono ?_)
                 | (go_at_call 20; refine (unmix_any _ _).mono ?_))
                rintro e w' ⟨rfl, hw⟩
                exact ⟨rfl, St.call (by assumption) hw⟩)))
   try simp only [Act.put, List.setIfInBounds_toArray, List.set])
  (first
     | (apply head_skip rfl)
     | (apply head_step_g rfl
        focus
          intro w0 hC
          (exact neq_quiet 29 rfl rfl rfl Try.eqGuardType29 Try.underlying29 (by simp [go_sem]) (by simp [go_sem]) (by with_reducible assumption)))
     | (apply head_step_g rfl
        focus
          intro w0 hC
          have hC' := Lib.hid hC
          obtain ⟨⟨r1, f1, i1, b1, l1⟩, ⟨r2, f2, i2, b2, l2⟩, m12, m21⟩ := St.facts2 hC
          clear hC
          go_simp
          have hC := hC'.out
          (first
             | with_reducible rfl
             | ((first
                 | (go_at_call 15; refine (Pur.down (box_pur _) _).mono ?_)
                 | (go_at_call 19; refine (Pur.down (unbox_pur _) _).mono ?_)
                 | (go_at_call 8; refine (Pur.down (mul_pur _ _) _).mono ?_)
                 | (go_at_call 17; refine (mix_any _ _).mono ?_)
                 | (go_at_call 20; refine (unmix_any _ _).mono ?_))
                rintro e w' ⟨rfl, hw⟩
                exact ⟨rfl, St.call (by assumption) hw⟩)))
   try simp only [Act.put, List.setIfInBounds_toArray, List.set])
  (first
     | (apply head_skip rfl)
     | (apply head_step_g rfl
        focus
          intro w0 hC
          (exact neq_quiet 29 rfl rfl rfl Try.eqGuardType29 Try.underlying29 (by simp [go_sem]) (by simp [go_sem]) (by with_reducible assumption)))
     | (apply head_step_g rfl
        focus
          intro w0 hC
          have hC' := Lib.hid hC
          obtain ⟨⟨r1, f1, i1, b1, l1⟩, ⟨r2, f2, i2, b2, l2⟩, m12, m21⟩ := St.facts2 hC
          clear hC
          go_simp
          have hC := hC'.out
          (first
             | with_reducible rfl
             | ((first
                 | (go_at_call 15; refine (Pur.down (box_pur _) _).mono ?_)
                 | (go_at_call 19; refine (Pur.down (unbox_pur _) _).mono ?_)
                 | (go_at_call 8; refine (Pur.down (mul_pur _ _) _).mono ?_)
                 | (go_at_call 17; refine (mix_any _ _).mono ?_)
                 | (go_at_call 20; refine (unmix_any _ _).mono ?_))
                rintro e w' ⟨rfl, hw⟩
                exact ⟨rfl, St.call (by assumption) hw⟩)))
   try simp only [Act.put, List.setIfInBounds_toArray, List.set])
  (first
     | (apply head_skip rfl)
     | (apply head_step_g rfl
        focus
          intro w0 hC
          (exact neq_quiet 29 rfl rfl rfl Try.eqGuardType29 Try.underlying29 (by simp [go_sem]) (by simp [go_sem]) (by with_reducible assumption)))
     | (apply head_step_g rfl
        focus
          intro w0 hC
          have hC' := Lib.hid hC
          obtain ⟨⟨r1, f1, i1, b1, l1⟩, ⟨r2, f2, i2, b2, l2⟩, m12, m21⟩ := St.facts2 hC
          clear hC
          go_simp
          have hC := hC'.out
          (first
             | with_reducible rfl
             | ((first
                 | (go_at_call 15; refine (Pur.down (box_pur _) _).mono ?_)
                 | (go_at_call 19; refine (Pur.down (unbox_pur _) _).mono ?_)
                 | (go_at_call 8; refine (Pur.down (mul_pur _ _) _).mono ?_)
                 | (go_at_call 17; refine (mix_any _ _).mono ?_)
                 | (go_at_call 20; refine (unmix_any _ _).mono ?_))
                rintro e w' ⟨rfl, hw⟩
                exact ⟨rfl, St.call (by assumption) hw⟩)))
   try simp only [Act.put, List.setIfInBounds_toArray, List.set])
  (first
     | (apply head_skip rfl)
     | (apply head_step_g rfl
        focus
          intro w0 hC
          (exact neq_quiet 29 rfl rfl rfl Try.eqGuardType29 Try.underlying29 (by simp [go_sem]) (by simp [go_sem]) (by with_reducible assumption)))
     | (apply head_step_g rfl
        focus
          intro w0 hC
          have hC' := Lib.hid hC
          obtain ⟨⟨r1, f1, i1, b1, l1⟩, ⟨r2, f2, i2, b2, l2⟩, m12, m21⟩ := St.facts2 hC
          clear hC
          go_simp
          have hC := hC'.out
          (first
             | with_reducible rfl
             | ((first
                 | (go_at_call 15; refine (Pur.down (box_pur _) _).mono ?_)
                 | (go_at_call 19; refine (Pur.down (unbox_pur _) _).mono ?_)
                 | (go_at_call 8; refine (Pur.down (mul_pur _ _) _).mono ?_)
                 | (go_at_call 17; refine (mix_any _ _).mono ?_)
                 | (go_at_call 20; refine (unmix_any _ _).mono ?_))
                rintro e w' ⟨rfl, hw⟩
                exact ⟨rfl, St.call (by assumption) hw⟩)))
   try simp only [Act.put, List.setIfInBounds_toArray, List.set])
  (first
     | (apply head_skip rfl)
     | (apply head_step_g rfl
        focus
          intro w0 hC
          (exact neq_quiet 29 rfl rfl rfl Try.eqGuardType29 Try.underlying29 (by simp [go_sem]) (by simp [go_sem]) (by with_reducible assumption)))
     | (apply head_step_g rfl
        focus
          intro w0 hC
          have hC' := Lib.hid hC
          obtain ⟨⟨r1, f1, i1, b1, l1⟩, ⟨r2, f2, i2, b2, l2⟩, m12, m21⟩ := St.facts2 hC
          clear hC
          go_simp
          have hC := hC'.out
          (first
             | with_reducible rfl
             | ((first
                 | (go_at_call 15; refine (Pur.down (box_pur _) _).mono ?_)
                 | (go_at_call 19; refine (Pur.down (unbox_pur _) _).mono ?_)
                 | (go_at_call 8; refine (Pur.down (mul_pur _ _) _).mono ?_)
                 | (go_at_call 17; refine (mix_any _ _).mono ?_)
                 | (go_at_call 20; refine (unmix_any _ _).mono ?_))
                rintro e w' ⟨rfl, hw⟩
                exact ⟨rfl, St.call (by assumption) hw⟩)))
   try simp only [Act.put, List.setIfInBounds_toArray, List.set])
  (first
     | (apply head_skip rfl)
     | (apply head_step_g rfl
        focus
          intro w0 hC
          (exact neq_quiet 29 rfl rfl rfl Try.eqGuardType29 Try.underlying29 (by simp [go_sem]) (by simp [go_sem]) (by with_reducible assumption)))
     | (apply head_step_g rfl
        focus
          intro w0 hC
          have hC' := Lib.hid hC
          obtain ⟨⟨r1, f1, i1, b1, l1⟩, ⟨r2, f2, i2, b2, l2⟩, m12, m21⟩ := St.facts2 hC
          clear hC
          go_simp
          have hC := hC'.out
          (first
             | with_reducible rfl
             | ((first
                 | (go_at_call 15; refine (Pur.down (box_pur _) _).mono ?_)
                 | (go_at_call 19; refine (Pur.down (unbox_pur _) _).mono ?_)
                 | (go_at_call 8; refine (Pur.down (mul_pur _ _) _).mono ?_)
                 | (go_at_call 17; refine (mix_any _ _).mono ?_)
                 | (go_at_call 20; refine (unmix_any _ _).mono ?_))
                rintro e w' ⟨rfl, hw⟩
                exact ⟨rfl, St.call (by assumption) hw⟩)))
   try simp only [Act.put, List.setIfInBounds_toArray, List.set])
  (first
     | (apply head_skip rfl)
     | (apply head_step_g rfl
        focus
          intro w0 hC
          (exact neq_quiet 29 rfl rfl rfl Try.eqGuardType29 Try.underlying29 (by simp [go_sem]) (by simp [go_sem]) (by with_reducible assumption)))
     | (apply head_step_g rfl
        focus
          intro w0 hC
          have hC' := Lib.hid hC
          obtain ⟨⟨r1, f1, i1, b1, l1⟩, ⟨r2, f2, i2, b2, l2⟩, m12, m21⟩ := St.facts2 hC
          clear hC
          go_simp
          have hC := hC'.out
          (first
             | with_reducible rfl
             | ((first
                 | (go_at_call 15; refine (Pur.down (box_pur _) _).mono ?_)
                 | (go_at_call 19; refine (Pur.down (unbox_pur _) _).mono ?_)
                 | (go_at_call 8; refine (Pur.down (mul_pur _ _) _).mono ?_)
                 | (go_at_call 17; refine (mix_any _ _).mono ?_)
                 | (go_at_call 20; refine (unmix_any _ _).mono ?_))
                rintro e w' ⟨rfl, hw⟩
                exact ⟨rfl, St.call (by assumption) hw⟩)))
   try simp only [Act.put, List.setIfInBounds_toArray, List.set])
  (first
     | (apply head_skip rfl)
     | (apply head_step_g rfl
        focus
          intro w0 hC
          (exact neq_quiet 29 rfl rfl rfl Try.eqGuardType29 Try.underlying29 (by simp [go_sem]) (by simp [go_sem]) (by with_reducible assumption)))
     | (apply head_step_g rfl
        focus
          intro w0 hC
          have hC' := Lib.hid hC
          obtain ⟨⟨r1, f1, i1, b1, l1⟩, ⟨r2, f2, i2, b2, l2⟩, m12, m21⟩ := St.facts2 hC
          clear hC
          go_simp
          have hC := hC'.out
          (first
             | with_reducible rfl
             | ((first
                 | (go_at_call 15; refine (Pur.down (box_pur _) _).mono ?_)
                 | (go_at_call 19; refine (Pur.down (unbox_pur _) _).mono ?_)
                 | (go_at_call 8; refine (Pur.down (mul_pur _ _) _).mono ?_)
                 | (go_at_call 17; refine (mix_any _ _).mono ?_)
                 | (go_at_call 20; refine (unmix_any _ _).mono ?_))
                rintro e w' ⟨rfl, hw⟩
                exact ⟨rfl, St.call (by assumption) hw⟩)))
   try simp only [Act.put, List.setIfInBounds_toArray, List.set])
  (first
     | (apply head_skip rfl)
     | (apply head_step_g rfl
        focus
          intro w0 hC
          (exact neq_quiet 29 rfl rfl rfl Try.eqGuardType29 Try.underlying29 (by simp [go_sem]) (by simp [go_sem]) (by with_reducible assumption)))
     | (apply head_step_g rfl
        focus
          intro w0 hC
          have hC' := Lib.hid hC
          obtain ⟨⟨r1, f1, i1, b1, l1⟩, ⟨r2, f2, i2, b2, l2⟩, m12, m21⟩ := St.facts2 hC
          clear hC
          go_simp
          have hC := hC'.out
          (first
             | with_reducible rfl
             | ((first
                 | (go_at_call 15; refine (Pur.down (box_pur _) _).mono ?_)
                 | (go_at_call 19; refine (Pur.down (unbox_pur _) _).mono ?_)
                 | (go_at_call 8; refine (Pur.down (mul_pur _ _) _).mono ?_)
                 | (go_at_call 17; refine (mix_any _ _).mono ?_)
                 | (go_at_call 20; refine (unmix_any _ _).mono ?_))
                rintro e w' ⟨rfl, hw⟩
                exact ⟨rfl, St.call (by assumption) hw⟩)))
   try simp only [Act.put, List.setIfInBounds_toArray, List.set])
  (first
     | (apply head_skip rfl)
     | (apply head_step_g rfl
        focus
          intro w0 hC
          (exact neq_quiet 29 rfl rfl rfl Try.eqGuardType29 Try.underlying29 (by simp [go_sem]) (by simp [go_sem]) (by with_reducible assumption)))
     | (apply head_step_g rfl
        focus
          intro w0 hC
          have hC' := Lib.hid hC
          obtain ⟨⟨r1, f1, i1, b1, l1⟩, ⟨r2, f2, i2, b2, l2⟩, m12, m21⟩ := St.facts2 hC
          clear hC
          go_simp
          have hC := hC'.out
          (first
             | with_reducible rfl
             | ((first
                 | (go_at_call 15; refine (Pur.down (box_pur _) _).mono ?_)
                 | (go_at_call 19; refine (Pur.down (unbox_pur _) _).mono ?_)
                 | (go_at_call 8; refine (Pur.down (mul_pur _ _) _).mono ?_)
                 | (go_at_call 17; refine (mix_any _ _).mono ?_)
                 | (go_at_call 20; refine (unmix_any _ _).mono ?_))
                rintro e w' ⟨rfl, hw⟩
                exact ⟨rfl, St.call (by assumption) hw⟩)))
   try simp only [Act.put, List.setIfInBounds_toArray, List.set])
  (first
     | (apply head_skip rfl)
     | (apply head_step_g rfl
        focus
          intro w0 hC
          (exact neq_quiet 29 rfl rfl rfl Try.eqGuardType29 Try.underlying29 (by simp [go_sem]) (by simp [go_sem]) (by with_reducible assumption)))
     | (apply head_step_g rfl
        focus
          intro w0 hC
          have hC' := Lib.hid hC
          obtain ⟨⟨r1, f1, i1, b1, l1⟩, ⟨r2, f2, i2, b2, l2⟩, m12, m21⟩ := St.facts2 hC
          clear hC
          go_simp
          have hC := hC'.out
          (first
             | with_reducible rfl
             | ((first
                 | (go_at_call 15; refine (Pur.down (box_pur _) _).mono ?_)
                 | (go_at_call 19; refine (Pur.down (unbox_pur _) _).mono ?_)
                 | (go_at_call 8; refine (Pur.down (mul_pur _ _) _).mono ?_)
                 | (go_at_call 17; refine (mix_any _ _).mono ?_)
                 | (go_at_call 20; refine (unmix_any _ _).mono ?_))
                rintro e w' ⟨rfl, hw⟩
                exact ⟨rfl, St.call (by assumption) hw⟩)))
   try simp only [Act.put, List.setIfInBounds_toArray, List.set])
  (first
     | (apply head_skip rfl)
     | (apply head_step_g rfl
        focus
          intro w0 hC
          (exact neq_quiet 29 rfl rfl rfl Try.eqGuardType29 Try.underlying29 (by simp [go_sem]) (by simp [go_sem]) (by with_reducible assumption)))
     | (apply head_step_g rfl
        focus
          intro w0 hC
          have hC' := Lib.hid hC
          obtain ⟨⟨r1, f1, i1, b1, l1⟩, ⟨r2, f2, i2, b2, l2⟩, m12, m21⟩ := St.facts2 hC
          clear hC
          go_simp
          have hC := hC'.out
          (first
             | with_reducible rfl
             | ((first
                 | (go_at_call 15; refine (Pur.down (box_pur _) _).mono ?_)
                 | (go_at_call 19; refine (Pur.down (unbox_pur _) _).mono ?_)
                 | (go_at_call 8; refine (Pur.down (mul_pur _ _) _).mono ?_)
                 | (go_at_call 17; refine (mix_any _ _).mono ?_)
                 | (go_at_call 20; refine (unmix_any _ _).mono ?_))
                rintro e w' ⟨rfl, hw⟩
                exact ⟨rfl, St.call (by assumption) hw⟩)))
   try simp only [Act.put, List.setIfInBounds_toArray, List.set])
  (first
     | (apply head_skip rfl)
     | (apply head_step_g rfl
        focus
          intro w0 hC
          (exact neq_quiet 29 rfl rfl rfl Try.eqGuardType29 Try.underlying29 (by simp [go_sem]) (by simp [go_sem]) (by with_reducible assumption)))
     | (apply head_step_g rfl
        focus
          intro w0 hC
          have hC' := Lib.hid hC
          obtain ⟨⟨r1, f1, i1, b1, l1⟩, ⟨r2, f2, i2, b2, l2⟩, m12, m21⟩ := St.facts2 hC
          clear hC
          go_simp
          have hC := hC'.out
          (first
             | with_reducible rfl
             | ((first
                 | (go_at_call 15; refine (Pur.down (box_pur _) _).mono ?_)
                 | (go_at_call 19; refine (Pur.down (unbox_pur _) _).mono ?_)
                 | (go_at_call 8; refine (Pur.down (mul_pur _ _) _).mono ?_)
                 | (go_at_call 17; refine (mix_any _ _).mono ?_)
                 | (go_at_call 20; refine (unmix_any _ _).mono ?_))
                rintro e w' ⟨rfl, hw⟩
                exact ⟨rfl, St.call (by assumption) hw⟩)))
   try simp only [Act.put, List.setIfInBounds_toArray, List.set])
  (first
     | (apply head_skip rfl)
     | (apply head_step_g rfl
        focus
          intro w0 hC
          (exact neq_quiet 29 rfl rfl rfl Try.eqGuardType29 Try.underlying29 (by simp [go_sem]) (by simp [go_sem]) (by with_reducible assumption)))
     | (apply head_step_g rfl
        focus
          intro w0 hC
          have hC' := Lib.hid hC
          obtain ⟨⟨r1, f1, i1, b1, l1⟩, ⟨r2, f2, i2, b2, l2⟩, m12, m21⟩ := St.facts2 hC
          clear hC
          go_simp
          have hC := hC'.out
          (first
             | with_reducible rfl
             | ((first
                 | (go_at_call 15; refine (Pur.down (box_pur _) _).mono ?_)
                 | (go_at_call 19; refine (Pur.down (unbox_pur _) _).mono ?_)
                 | (go_at_call 8; refine (Pur.down (mul_pur _ _) _).mono ?_)
                 | (go_at_call 17; refine (mix_any _ _).mono ?_)
                 | (go_at_call 20; refine (unmix_any _ _).mono ?_))
                rintro e w' ⟨rfl, hw⟩
                exact ⟨rfl, St.call (by assumption) hw⟩)))
   try simp only [Act.put, List.setIfInBounds_toArray, List.set])
  (first
     | (apply head_skip rfl)
     | (apply head_step_g rfl
        focus
          intro w0 hC
          (exact neq_quiet 29 rfl rfl rfl Try.eqGuardType29 Try.underlying29 (by simp [go_sem]) (by simp [go_sem]) (by with_reducible assumption)))
     | (apply head_step_g rfl
        focus
          intro w0 hC
          have hC' := Lib.hid hC
          obtain ⟨⟨r1, f1, i1, b1, l1⟩, ⟨r2, f2, i2, b2, l2⟩, m12, m21⟩ := St.facts2 hC
          clear hC
          go_simp
          have hC := hC'.out
          (first
             | with_reducible rfl
             | ((first
                 | (go_at_call 15; refine (Pur.down (box_pur _) _).mono ?_)
                 | (go_at_call 19; refine (Pur.down (unbox_pur _) _).mono ?_)
                 | (go_at_call 8; refine (Pur.down (mul_pur _ _) _).mono ?_)
                 | (go_at_call 17; refine (mix_any _ _).mono ?_)
                 | (go_at_call 20; refine (unmix_any _ _).mono ?_))
                rintro e w' ⟨rfl, hw⟩
                exact ⟨rfl, St.call (by assumption) hw⟩)))
   try simp only [Act.put, List.setIfInBounds_toArray, List.set])
  (first
     | (apply head_skip rfl)
     | (apply head_step_g rfl
        focus
          intro w0 hC
          (exact neq_quiet 29 rfl rfl rfl Try.eqGuardType29 Try.underlying29 (by simp [go_sem]) (by simp [go_sem]) (by with_reducible assumption)))
     | (apply head_step_g rfl
        focus
          intro w0 hC
          have hC' := Lib.hid hC
          obtain ⟨⟨r1, f1, i1, b1, l1⟩, ⟨r2, f2, i2, b2, l2⟩, m12, m21⟩ := St.facts2 hC
          clear hC
          go_simp
          have hC := hC'.out
          (first
             | with_reducible rfl
             | ((first
                 | (go_at_call 15; refine (Pur.down (box_pur _) _).mono ?_)
                 | (go_at_call 19; refine (Pur.down (unbox_pur _) _).mono ?_)
                 | (go_at_call 8; refine (Pur.down (mul_pur _ _) _).mono ?_)
                 | (go_at_call 17; refine (mix_any _ _).mono ?_)
                 | (go_at_call 20; refine (unmix_any _ _).mono ?_))
                rintro e w' ⟨rfl, hw⟩
                exact ⟨rfl, St.call (by assumption) hw⟩)))
   try simp only [Act.put, List.setIfInBounds_toArray, List.set])
  (first
     | (apply head_skip rfl)
     | (apply head_step_g rfl
        focus
          intro w0 hC
          (exact neq_quiet 29 rfl rfl rfl Try.eqGuardType29 Try.underlying29 (by simp [go_sem]) (by simp [go_sem]) (by with_reducible assumption)))
     | (apply head_step_g rfl
        focus
          intro w0 hC
          have hC' := Lib.hid hC
          obtain ⟨⟨r1, f1, i1, b1, l1⟩, ⟨r2, f2, i2, b2, l2⟩, m12, m21⟩ := St.facts2 hC
          clear hC
          go_simp
          have hC := hC'.out
          (first
             | with_reducible rfl
             | ((first
                 | (go_at_call 15; refine (Pur.down (box_pur _) _).mono ?_)
                 | (go_at_call 19; refine (Pur.down (unbox_pur _) _).mono ?_)
                 | (go_at_call 8; refine (Pur.down (mul_pur _ _) _).mono ?_)
                 | (go_at_call 17; refine (mix_any _ _).mono ?_)
                 | (go_at_call 20; refine (unmix_any _ _).mono ?_))
                rintro e w' ⟨rfl, hw⟩
                exact ⟨rfl, St.call (by assumption) hw⟩)))
   try simp only [Act.put, List.setIfInBounds_toArray, List.set])
  (first
     | (apply head_skip rfl)
     | (apply head_step_g rfl
        focus
          intro w0 hC
          (exact neq_quiet 29 rfl rfl rfl Try.eqGuardType29 Try.underlying29 (by simp [go_sem]) (by simp [go_sem]) (by with_reducible assumption)))
     | (apply head_step_g rfl
        focus
          intro w0 hC
          have hC' := Lib.hid hC
          obtain ⟨⟨r1, f1, i1, b1, l1⟩, ⟨r2, f2, i2, b2, l2⟩, m12, m21⟩ := St.facts2 hC
          clear hC
          go_simp
          have hC := hC'.out
          (first
             | with_reducible rfl
             | ((first
                 | (go_at_call 15; refine (Pur.down (box_pur _) _).mono ?_)
                 | (go_at_call 19; refine (Pur.down (unbox_pur _) _).mono ?_)
                 | (go_at_call 8; refine (Pur.down (mul_pur _ _) _).mono ?_)
                 | (go_at_call 17; refine (mix_any _ _).mono ?_)
                 | (go_at_call 20; refine (unmix_any _ _).mono ?_))
                rintro e w' ⟨rfl, hw⟩
                exact ⟨rfl, St.call (by assumption) hw⟩)))
   try simp only [Act.put, List.setIfInBounds_toArray, List.set])
  (first
     | (apply head_skip rfl)
     | (apply head_step_g rfl
        focus
          intro w0 hC
          (exact neq_quiet 29 rfl rfl rfl Try.eqGuardType29 Try.underlying29 (by simp [go_sem]) (by simp [go_sem]) (by with_reducible assumption)))
     | (apply head_step_g rfl
        focus
          intro w0 hC
          have hC' := Lib.hid hC
          obtain ⟨⟨r1, f1, i1, b1, l1⟩, ⟨r2, f2, i2, b2, l2⟩, m12, m21⟩ := St.facts2 hC
          clear hC
          go_simp
          have hC := hC'.out
          (first
             | with_reducible rfl
             | ((first
                 | (go_at_call 15; refine (Pur.down (box_pur _) _).mono ?_)
                 | (go_at_call 19; refine (Pur.down (unbox_pur _) _).mono ?_)
                 | (go_at_call 8; refine (Pur.down (mul_pur _ _) _).mono ?_)
                 | (go_at_call 17; refine (mix_any _ _).mono ?_)
                 | (go_at_call 20; refine (unmix_any _ _).mono ?_))
                rintro e w' ⟨rfl, hw⟩
                exact ⟨rfl, St.call (by assumption) hw⟩)))
   try simp only [Act.put, List.setIfInBounds_toArray, List.set])
  (first
     | (apply head_skip rfl)
     | (apply head_step_g rfl
        focus
          intro w0 hC
          (exact neq_quiet 29 rfl rfl rfl Try.eqGuardType29 Try.underlying29 (by simp [go_sem]) (by simp [go_sem]) (by with_reducible assumption)))
     | (apply head_step_g rfl
        focus
          intro w0 hC
          have hC' := Lib.hid hC
          obtain ⟨⟨r1, f1, i1, b1, l1⟩, ⟨r2, f2, i2, b2, l2⟩, m12, m21⟩ := St.facts2 hC
          clear hC
          go_simp
          have hC := hC'.out
          (first
             | with_reducible rfl
             | ((first
                 | (go_at_call 15; refine (Pur.down (box_pur _) _).mono ?_)
                 | (go_at_call 19; refine (Pur.down (unbox_pur _) _).mono ?_)
                 | (go_at_call 8; refine (Pur.down (mul_pur _ _) _).mono ?_)
                 | (go_at_call 17; refine (mix_any _ _).mono ?_)
                 | (go_at_call 20; refine (unmix_any _ _).mono ?_))
                rintro e w' ⟨rfl, hw⟩
                exact ⟨rfl, St.call (by assumption) hw⟩)))
   try simp only [Act.put, List.setIfInBounds_toArray, List.set])
  (first
     | (apply head_skip rfl)
     | (apply head_step_g rfl
        focus
          intro w0 hC
          (exact neq_quiet 29 rfl rfl rfl Try.eqGuardType29 Try.underlying29 (by simp [go_sem]) (by simp [go_sem]) (by with_reducible assumption)))
     | (apply head_step_g rfl
        focus
          intro w0 hC
          have hC' := Lib.hid hC
          obtain ⟨⟨r1, f1, i1, b1, l1⟩, ⟨r2, f2, i2, b2, l2⟩, m12, m21⟩ := St.facts2 hC
          clear hC
          go_simp
          have hC := hC'.out
          (first
             | with_reducible rfl
             | ((first
                 | (go_at_call 15; refine (Pur.down (box_pur _) _).mono ?_)
                 | (go_at_call 19; refine (Pur.down (unbox_pur _) _).mono ?_)
                 | (go_at_call 8; refine (Pur.down (mul_pur _ _) _).mono ?_)
                 | (go_at_call 17; refine (mix_any _ _).mono ?_)
                 | (go_at_call 20; refine (unmix_any _ _).mono ?_))
                rintro e w' ⟨rfl, hw⟩
                exact ⟨rfl, St.call (by assumption) hw⟩)))
   try simp only [Act.put, List.setIfInBounds_toArray, List.set])
  (first
     | (apply head_skip rfl)
     | (apply head_step_g rfl
        focus
          intro w0 hC
          (exact neq_quiet 29 rfl rfl rfl Try.eqGuardType29 Try.underlying29 (by simp [go_sem]) (by simp [go_sem]) (by with_reducible assumption)))
     | (apply head_step_g rfl
        focus
          intro w0 hC
          have hC' := Lib.hid hC
          obtain ⟨⟨r1, f1, i1, b1, l1⟩, ⟨r2, f2, i2, b2, l2⟩, m12, m21⟩ := St.facts2 hC
          clear hC
          go_simp
          have hC := hC'.out
          (first
             | with_reducible rfl
             | ((first
                 | (go_at_call 15; refine (Pur.down (box_pur _) _).mono ?_)
                 | (go_at_call 19; refine (Pur.down (unbox_pur _) _).mono ?_)
                 | (go_at_call 8; refine (Pur.down (mul_pur _ _) _).mono ?_)
                 | (go_at_call 17; refine (mix_any _ _).mono ?_)
                 | (go_at_call 20; refine (unmix_any _ _).mono ?_))
                rintro e w' ⟨rfl, hw⟩
                exact ⟨rfl, St.call (by assumption) hw⟩)))
   try simp only [Act.put, List.setIfInBounds_toArray, List.set])
  (first
     | (apply head_skip rfl)
     | (apply head_step_g rfl
        focus
          intro w0 hC
          (exact neq_quiet 29 rfl rfl rfl Try.eqGuardType29 Try.underlying29 (by simp [go_sem]) (by simp [go_sem]) (by with_reducible assumption)))
     | (apply head_step_g rfl
        focus
          intro w0 hC
          have hC' := Lib.hid hC
          obtain ⟨⟨r1, f1, i1, b1, l1⟩, ⟨r2, f2, i2, b2, l2⟩, m12, m21⟩ := St.facts2 hC
          clear hC
          go_simp
          have hC := hC'.out
          (first
             | with_reducible rfl
             | ((first
                 | (go_at_call 15; refine (Pur.down (box_pur _) _).mono ?_)
                 | (go_at_call 19; refine (Pur.down (unbox_pur _) _).mono ?_)
                 | (go_at_call 8; refine (Pur.down (mul_pur _ _) _).mono ?_)
                 | (go_at_call 17; refine (mix_any _ _).mono ?_)
                 | (go_at_call 20; refine (unmix_any _ _).mono ?_))
                rintro e w' ⟨rfl, hw⟩
                exact ⟨rfl, St.call (by assumption) hw⟩)))
   try simp only [Act.put, List.setIfInBounds_toArray, List.set])
  (first
     | (apply head_skip rfl)
     | (apply head_step_g rfl
        focus
          intro w0 hC
          (exact neq_quiet 29 rfl rfl rfl Try.eqGuardType29 Try.underlying29 (by simp [go_sem]) (by simp [go_sem]) (by with_reducible assumption)))
     | (apply head_step_g rfl
        focus
          intro w0 hC
          have hC' := Lib.hid hC
          obtain ⟨⟨r1, f1, i1, b1, l1⟩, ⟨r2, f2, i2, b2, l2⟩, m12, m21⟩ := St.facts2 hC
          clear hC
          go_simp
          have hC := hC'.out
          (first
             | with_reducible rfl
             | ((first
                 | (go_at_call 15; refine (Pur.down (box_pur _) _).mono ?_)
                 | (go_at_call 19; refine (Pur.down (unbox_pur _) _).mono ?_)
                 | (go_at_call 8; refine (Pur.down (mul_pur _ _) _).mono ?_)
                 | (go_at_call 17; refine (mix_any _ _).mono ?_)
                 | (go_at_call 20; refine (unmix_any _ _).mono ?_))
                rintro e w' ⟨rfl, hw⟩
                exact ⟨rfl, St.call (by assumption) hw⟩)))
   try simp only [Act.put, List.setIfInBounds_toArray, List.set])
  (first
     | (apply head_skip rfl)
     | (apply head_step_g rfl
        focus
          intro w0 hC
          (exact neq_quiet 29 rfl rfl rfl Try.eqGuardType29 Try.underlying29 (by simp [go_sem]) (by simp [go_sem]) (by with_reducible assumption)))
     | (apply head_step_g rfl
        focus
          intro w0 hC
          have hC' := Lib.hid hC
          obtain ⟨⟨r1, f1, i1, b1, l1⟩, ⟨r2, f2, i2, b2, l2⟩, m12, m21⟩ := St.facts2 hC
          clear hC
          go_simp
          have hC := hC'.out
          (first
             | with_reducible rfl
             | ((first
                 | (go_at_call 15; refine (Pur.down (box_pur _) _).mono ?_)
                 | (go_at_call 19; refine (Pur.down (unbox_pur _) _).mono ?_)
                 | (go_at_call 8; refine (Pur.down (mul_pur _ _) _).mono ?_)
                 | (go_at_call 17; refine (mix_any _ _).mono ?_)
                 | (go_at_call 20; refine (unmix_any _ _).mono ?_))
                rintro e w' ⟨rfl, hw⟩
                exact ⟨rfl, St.call (by assumption) hw⟩)))
   try simp only [Act.put, List.setIfInBounds_toArray, List.set])
  refine wpQuiet_nil ?_
  intro w1 hC
  clear f1 f2 f3 f4 HC
  (have HC := Lib.hid hC
   have sos := hC.below.os
   obtain ⟨⟨r1, f1, i1, b1, l1⟩, ⟨r2, f2, i2, b2, l2⟩, m12, m21⟩ := St.facts2 hC
   clear hC)
  go_wp2_with fail
  (clear r1 f1 i1 b1 l1 r2 f2 i2 b2 l2 m12 m21 sos)
  have e1 : same 4 (Gf.unmix (Gf.mix c)) c = true := (same_iff 4 _ _).2 fun i hi => Ci.unmix_mix c i hi
  have e2 : same 4 (Gf.mix (Gf.unmix (snd4 c))) (snd4 c) = true := (same_iff 4 _ _).2 fun i hi => Ci.mix_unmix (snd4 c) i hi
  refine St.region HC.out (by kernel_rfl) (by kernel_rfl) ?_
  (first
     | (apply head_skip rfl)
     | (apply head_step_g rfl
        focus
          intro w0 hC
          (exact neq_quiet 29 rfl rfl rfl Try.eqGuardType29 Try.underlying29 (by simp [go_sem]) (by simp [go_sem]) (by with_reducible assumption)))
     | (apply head_step_g rfl
        focus
          intro w0 hC
          have hC' := Lib.hid hC
          obtain ⟨⟨r1, f1, i1, b1, l1⟩, ⟨r2, f2, i2, b2, l2⟩, m12, m21⟩ := St.facts2 hC
          clear hC
          go_simp
          have hC := hC'.out
          (first
             | with_reducible rfl
             | ((first
                 | (go_at_call 15; refine (Pur.down (box_pur _) _).mono ?_)
                 | (go_at_call 19; refine (Pur.down (unbox_pur _) _).mono ?_)
                 | (go_at_call 8; refine (Pur.down (mul_pur _ _) _).mono ?_)
                 | (go_at_call 17; refine (mix_any _ _).mono ?_)
                 | (go_at_call 20; refine (unmix_any _ _).mono ?_))
                rintro e w' ⟨rfl, hw⟩
                exact ⟨rfl, St.call (by assumption) hw⟩)))
   try simp only [Act.put, List.setIfInBounds_toArray, List.set])
  (first
     | (apply head_skip rfl)
     | (apply head_step_g rfl
        focus
          intro w0 hC
          (exact neq_quiet 29 rfl rfl rfl Try.eqGuardType29 Try.underlying29 (by simp [go_sem]) (by simp [go_sem]) (by with_reducible assumption)))
     | (apply head_step_g rfl
        focus
          intro w0 hC
          have hC' := Lib.hid hC
          obtain ⟨⟨r1, f1, i1, b1, l1⟩, ⟨r2, f2, i2, b2, l2⟩, m12, m21⟩ := St.facts2 hC
          clear hC
          go_simp
          have hC := hC'.out
          (first
             | with_reducible rfl
             | ((first
                 | (go_at_call 15; refine (Pur.down (box_pur _) _).mono ?_)
                 | (go_at_call 19; refine (Pur.down (unbox_pur _) _).mono ?_)
                 | (go_at_call 8; refine (Pur.down (mul_pur _ _) _).mono ?_)
                 | (go_at_call 17; refine (mix_any _ _).mono ?_)
                 | (go_at_call 20; refine (unmix_any _ _).mono ?_))
                rintro e w' ⟨rfl, hw⟩
                exact ⟨rfl, St.call (by assumption) hw⟩)))
   try simp only [Act.put, List.setIfInBounds_toArray, List.set])
  (first
     | (apply head_skip rfl)
     | (apply head_step_g rfl
        focus
          intro w0 hC
          (exact neq_quiet 29 rfl rfl rfl Try.eqGuardType29 Try.underlying29 (by simp [go_sem]) (by simp [go_sem]) (by with_reducible assumption)))
     | (apply head_step_g rfl
        focus
          intro w0 hC
          have hC' := Lib.hid hC
          obtain ⟨⟨r1, f1, i1, b1, l1⟩, ⟨r2, f2, i2, b2, l2⟩, m12, m21⟩ := St.facts2 hC
          clear hC
          go_simp
          have hC := hC'.out
          (first
             | with_reducible rfl
             | ((first
                 | (go_at_call 15; refine (Pur.down (box_pur _) _).mono ?_)
                 | (go_at_call 19; refine (Pur.down (unbox_pur _) _).mono ?_)
                 | (go_at_call 8; refine (Pur.down (mul_pur _ _) _).mono ?_)
                 | (go_at_call 17; refine (mix_any _ _).mono ?_)
                 | (go_at_call 20; refine (unmix_any _ _).mono ?_))
                rintro e w' ⟨rfl, hw⟩
                exact ⟨rfl, St.call (by assumption) hw⟩)))
   try simp only [Act.put, List.setIfInBounds_toArray, List.set])
  (first
     | (apply head_skip rfl)
     | (apply head_step_g rfl
        focus
          intro w0 hC
          (exact neq_quiet 29 rfl rfl rfl Try.eqGuardType29 Try.underlying29 (by simp [go_sem]) (by simp [go_sem]) (by with_reducible assumption)))
     | (apply head_step_g rfl
        focus
          intro w0 hC
          have hC' := Lib.hid hC
          obtain ⟨⟨r1, f1, i1, b1, l1⟩, ⟨r2, f2, i2, b2, l2⟩, m12, m21⟩ := St.facts2 hC
          clear hC
          go_simp
          have hC := hC'.out
          (first
             | with_reducible rfl
             | ((first
                 | (go_at_call 15; refine (Pur.down (box_pur _) _).mono ?_)
                 | (go_at_call 19; refine (Pur.down (unbox_pur _) _).mono ?_)
                 | (go_at_call 8; refine (Pur.down (mul_pur _ _) _).mono ?_)
                 | (go_at_call 17; refine (mix_any _ _).mono ?_)
                 | (go_at_call 20; refine (unmix_any _ _).mono ?_))
                rintro e w' ⟨rfl, hw⟩
                exact ⟨rfl, St.call (by assumption) hw⟩)))
   try simp only [Act.put, List.setIfInBounds_toArray, List.set])
  (first
     | (apply head_skip rfl)
     | (apply head_step_g rfl
        focus
          intro w0 hC
          (exact neq_quiet 29 rfl rfl rfl Try.eqGuardType29 Try.underlying29 (by simp [go_sem]) (by simp [go_sem]) (by with_reducible assumption)))
     | (apply head_step_g rfl
        focus
          intro w0 hC
          have hC' := Lib.hid hC
          obtain ⟨⟨r1, f1, i1, b1, l1⟩, ⟨r2, f2, i2, b2, l2⟩, m12, m21⟩ := St.facts2 hC
          clear hC
          go_simp
          have hC := hC'.out
          (first
             | with_reducible rfl
             | ((first
                 | (go_at_call 15; refine (Pur.down (box_pur _) _).mono ?_)
                 | (go_at_call 19; refine (Pur.down (unbox_pur _) _).mono ?_)
                 | (go_at_call 8; refine (Pur.down (mul_pur _ _) _).mono ?_)
                 | (go_at_call 17; refine (mix_any _ _).mono ?_)
                 | (go_at_call 20; refine (unmix_any _ _).mono ?_))
                rintro e w' ⟨rfl, hw⟩
                exact ⟨rfl, St.call (by assumption) hw⟩)))
   try simp only [Act.put, List.setIfInBounds_toArray, List.set])
  (first
     | (apply head_skip rfl)
     | (apply head_step_g rfl
        focus
          intro w0 hC
          (exact neq_quiet 29 rfl rfl rfl Try.eqGuardType29 Try.underlying29 (by simp [go_sem]) (by simp [go_sem]) (by with_reducible assumption)))
     | (apply head_step_g rfl
        focus
          intro w0 hC
          have hC' := Lib.hid hC
          obtain ⟨⟨r1, f1, i1, b1, l1⟩, ⟨r2, f2, i2, b2, l2⟩, m12, m21⟩ := St.facts2 hC
          clear hC
          go_simp
          have hC := hC'.out
          (first
             | with_reducible rfl
             | ((first
                 | (go_at_call 15; refine (Pur.down (box_pur _) _).mono ?_)
                 | (go_at_call 19; refine (Pur.down (unbox_pur _) _).mono ?_)
                 | (go_at_call 8; refine (Pur.down (mul_pur _ _) _).mono ?_)
                 | (go_at_call 17; refine (mix_any _ _).mono ?_)
                 | (go_at_call 20; refine (unmix_any _ _).mono ?_))
                rintro e w' ⟨rfl, hw⟩
                exact ⟨rfl, St.call (by assumption) hw⟩)))
   try simp only [Act.put, List.setIfInBounds_toArray, List.set])
  (first
     | (apply head_skip rfl)
     | (apply head_step_g rfl
        focus
          intro w0 hC
          (exact neq_quiet 29 rfl rfl rfl Try.eqGuardType29 Try.underlying29 (by simp [go_sem]) (by simp [go_sem]) (by with_reducible assumption)))
     | (apply head_step_g rfl
        focus
          intro w0 hC
          have hC' := Lib.hid hC
          obtain ⟨⟨r1, f1, i1, b1, l1⟩, ⟨r2, f2, i2, b2, l2⟩, m12, m21⟩ := St.facts2 hC
          clear hC
          go_simp
          have hC := hC'.out
          (first
             | with_reducible rfl
             | ((first
                 | (go_at_call 15; refine (Pur.down (box_pur _) _).mono ?_)
                 | (go_at_call 19; refine (Pur.down (unbox_pur _) _).mono ?_)
                 | (go_at_call 8; refine (Pur.down (mul_pur _ _) _).mono ?_)
                 | (go_at_call 17; refine (mix_any _ _).mono ?_)
                 | (go_at_call 20; refine (unmix_any _ _).mono ?_))
                rintro e w' ⟨rfl, hw⟩
                exact ⟨rfl, St.call (by assumption) hw⟩)))
   try simp only [Act.put, List.setIfInBounds_toArray, List.set])
  (first
     | (apply head_skip rfl)
     | (apply head_step_g rfl
        focus
          intro w0 hC
          (exact neq_quiet 29 rfl rfl rfl Try.eqGuardType29 Try.underlying29 (by simp [go_sem]) (by simp [go_sem]) (by with_reducible assumption)))
     | (apply head_step_g rfl
        focus
          intro w0 hC
          have hC' := Lib.hid hC
          obtain ⟨⟨r1, f1, i1, b1, l1⟩, ⟨r2, f2, i2, b2, l2⟩, m12, m21⟩ := St.facts2 hC
          clear hC
          go_simp
          have hC := hC'.out
          (first
             | with_reducible rfl
             | ((first
                 | (go_at_call 15; refine (Pur.down (box_pur _) _).mono ?_)
                 | (go_at_call 19; refine (Pur.down (unbox_pur _) _).mono ?_)
                 | (go_at_call 8; refine (Pur.down (mul_pur _ _) _).mono ?_)
                 | (go_at_call 17; refine (mix_any _ _).mono ?_)
                 | (go_at_call 20; refine (unmix_any _ _).mono ?_))
                rintro e w' ⟨rfl, hw⟩
                exact ⟨rfl, St.call (by assumption) hw⟩)))
   try simp only [Act.put, List.setIfInBounds_toArray, List.set])
  (first
     | (apply head_skip rfl)
     | (apply head_step_g rfl
        focus
          intro w0 hC
          (exact neq_quiet 29 rfl rfl rfl Try.eqGuardType29 Try.underlying29 (by simp [go_sem]) (by simp [go_sem]) (by with_reducible assumption)))
     | (apply head_step_g rfl
        focus
          intro w0 hC
          have hC' := Lib.hid hC
          obtain ⟨⟨r1, f1, i1, b1, l1⟩, ⟨r2, f2, i2, b2, l2⟩, m12, m21⟩ := St.facts2 hC
          clear hC
          go_simp
          have hC := hC'.out
          (first
             | with_reducible rfl
             | ((first
                 | (go_at_call 15; refine (Pur.down (box_pur _) _).mono ?_)
                 | (go_at_call 19; refine (Pur.down (unbox_pur _) _).mono ?_)
                 | (go_at_call 8; refine (Pur.down (mul_pur _ _) _).mono ?_)
                 | (go_at_call 17; refine (mix_any _ _).mono ?_)
                 | (go_at_call 20; refine (unmix_any _ _).mono ?_))
                rintro e w' ⟨rfl, hw⟩
                exact ⟨rfl, St.call (by assumption) hw⟩)))
   try simp only [Act.put, List.setIfInBounds_toArray, List.set])
  (first
     | (apply head_skip rfl)
     | (apply head_step_g rfl
        focus
          intro w0 hC
          (exact neq_quiet 29 rfl rfl rfl Try.eqGuardType29 Try.underlying29 (by simp [go_sem]) (by simp [go_sem]) (by with_reducible assumption)))
     | (apply head_step_g rfl
        focus
          intro w0 hC
          have hC' := Lib.hid hC
          obtain ⟨⟨r1, f1, i1, b1, l1⟩, ⟨r2, f2, i2, b2, l2⟩, m12, m21⟩ := St.facts2 hC
          clear hC
          go_simp
          have hC := hC'.out
          (first
             | with_reducible rfl
             | ((first
                 | (go_at_call 15; refine (Pur.down (box_pur _) _).mono ?_)
                 | (go_at_call 19; refine (Pur.down (unbox_pur _) _).mono ?_)
                 | (go_at_call 8; refine (Pur.down (mul_pur _ _) _).mono ?_)
                 | (go_at_call 17; refine (mix_any _ _).mono ?_)
                 | (go_at_call 20; refine (unmix_any _ _).mono ?_))
                rintro e w' ⟨rfl, hw⟩
                exact ⟨rfl, St.call (by assumption) hw⟩)))
   try simp only [Act.put, List.setIfInBounds_toArray, List.set])
  (first
     | (apply head_skip rfl)
     | (apply head_step_g rfl
        focus
          intro w0 hC
          (exact neq_quiet 29 rfl rfl rfl Try.eqGuardType29 Try.underlying29 (by simp [go_sem]) (by simp [go_sem]) (by with_reducible assumption)))
     | (apply head_step_g rfl
        focus
          intro w0 hC
          have hC' := Lib.hid hC
          obtain ⟨⟨r1, f1, i1, b1, l1⟩, ⟨r2, f2, i2, b2, l2⟩, m12, m21⟩ := St.facts2 hC
          clear hC
          go_simp
          have hC := hC'.out
          (first
             | with_reducible rfl
             | ((first
                 | (go_at_call 15; refine (Pur.down (box_pur _) _).mono ?_)
                 | (go_at_call 19; refine (Pur.down (unbox_pur _) _).mono ?_)
                 | (go_at_call 8; refine (Pur.down (mul_pur _ _) _).mono ?_)
                 | (go_at_call 17; refine (mix_any _ _).mono ?_)
                 | (go_at_call 20; refine (unmix_any _ _).mono ?_))
                rintro e w' ⟨rfl, hw⟩
                exact ⟨rfl, St.call (by assumption) hw⟩)))
   try simp only [Act.put, List.setIfInBounds_toArray, List.set])
  (first
     | (apply head_skip rfl)
     | (apply head_step_g rfl
        focus
          intro w0 hC
          (exact neq_quiet 29 rfl rfl rfl Try.eqGuardType29 Try.underlying29 (by simp [go_sem]) (by simp [go_sem]) (by with_reducible assumption)))
     | (apply head_step_g rfl
        focus
          intro w0 hC
          have hC' := Lib.hid hC
          obtain ⟨⟨r1, f1, i1, b1, l1⟩, ⟨r2, f2, i2, b2, l2⟩, m12, m21⟩ := St.facts2 hC
          clear hC
          go_simp
          have hC := hC'.out
          (first
             | with_reducible rfl
             | ((first
                 | (go_at_call 15; refine (Pur.down (box_pur _) _).mono ?_)
                 | (go_at_call 19; refine (Pur.down (unbox_pur _) _).mono ?_)
                 | (go_at_call 8; refine (Pur.down (mul_pur _ _) _).mono ?_)
                 | (go_at_call 17; refine (mix_any _ _).mono ?_)
                 | (go_at_call 20; refine (unmix_any _ _).mono ?_))
                rintro e w' ⟨rfl, hw⟩
                exact ⟨rfl, St.call (by assumption) hw⟩)))
   try simp only [Act.put, List.setIfInBounds_toArray, List.set])
  (first
     | (apply head_skip rfl)
     | (apply head_step_g rfl
        focus
          intro w0 hC
          (exact neq_quiet 29 rfl rfl rfl Try.eqGuardType29 Try.underlying29 (by simp [go_sem]) (by simp [go_sem]) (by with_reducible assumption)))
     | (apply head_step_g rfl
        focus
          intro w0 hC
          have hC' := Lib.hid hC
          obtain ⟨⟨r1, f1, i1, b1, l1⟩, ⟨r2, f2, i2, b2, l2⟩, m12, m21⟩ := St.facts2 hC
          clear hC
          go_simp
          have hC := hC'.out
          (first
             | with_reducible rfl
             | ((first
                 | (go_at_call 15; refine (Pur.down (box_pur _) _).mono ?_)
                 | (go_at_call 19; refine (Pur.down (unbox_pur _) _).mono ?_)
                 | (go_at_call 8; refine (Pur.down (mul_pur _ _) _).mono ?_)
                 | (go_at_call 17; refine (mix_any _ _).mono ?_)
                 | (go_at_call 20; refine (unmix_any _ _).mono ?_))
                rintro e w' ⟨rfl, hw⟩
                exact ⟨rfl, St.call (by assumption) hw⟩)))
   try simp only [Act.put, List.setIfInBounds_toArray, List.set])
  (first
     | (apply head_skip rfl)
     | (apply head_step_g rfl
        focus
          intro w0 hC
          (exact neq_quiet 29 rfl rfl rfl Try.eqGuardType29 Try.underlying29 (by simp [go_sem]) (by simp [go_sem]) (by with_reducible assumption)))
     | (apply head_step_g rfl
        focus
          intro w0 hC
          have hC' := Lib.hid hC
          obtain ⟨⟨r1, f1, i1, b1, l1⟩, ⟨r2, f2, i2, b2, l2⟩, m12, m21⟩ := St.facts2 hC
          clear hC
          go_simp
          have hC := hC'.out
          (first
             | with_reducible rfl
             | ((first
                 | (go_at_call 15; refine (Pur.down (box_pur _) _).mono ?_)
                 | (go_at_call 19; refine (Pur.down (unbox_pur _) _).mono ?_)
                 | (go_at_call 8; refine (Pur.down (mul_pur _ _) _).mono ?_)
                 | (go_at_call 17; refine (mix_any _ _).mono ?_)
                 | (go_at_call 20; refine (unmix_any _ _).mono ?_))
                rintro e w' ⟨rfl, hw⟩
                exact ⟨rfl, St.call (by assumption) hw⟩)))
   try simp only [Act.put, List.setIfInBounds_toArray, List.set])
  (first
     | (apply head_skip rfl)
     | (apply head_step_g rfl
        focus
          intro w0 hC
          (exact neq_quiet 29 rfl rfl rfl Try.eqGuardType29 Try.underlying29 (by simp [go_sem]) (by simp [go_sem]) (by with_reducible assumption)))
     | (apply head_step_g rfl
        focus
          intro w0 hC
          have hC' := Lib.hid hC
          obtain ⟨⟨r1, f1, i1, b1, l1⟩, ⟨r2, f2, i2, b2, l2⟩, m12, m21⟩ := St.facts2 hC
          clear hC
          go_simp
          have hC := hC'.out
          (first
             | with_reducible rfl
             | ((first
                 | (go_at_call 15; refine (Pur.down (box_pur _) _).mono ?_)
                 | (go_at_call 19; refine (Pur.down (unbox_pur _) _).mono ?_)
                 | (go_at_call 8; refine (Pur.down (mul_pur _ _) _).mono ?_)
                 | (go_at_call 17; refine (mix_any _ _).mono ?_)
                 | (go_at_call 20; refine (unmix_any _ _).mono ?_))
                rintro e w' ⟨rfl, hw⟩
                exact ⟨rfl, St.call (by assumption) hw⟩)))
   try simp only [Act.put, List.setIfInBounds_toArray, List.set])
  (first
     | (apply head_skip rfl)
     | (apply head_step_g rfl
        focus
          intro w0 hC
          (exact neq_quiet 29 rfl rfl rfl Try.eqGuardType29 Try.underlying29 (by simp [go_sem]) (by simp [go_sem]) (by with_reducible assumption)))
     | (apply head_step_g rfl
        focus
          intro w0 hC
          have hC' := Lib.hid hC
          obtain ⟨⟨r1, f1, i1, b1, l1⟩, ⟨r2, f2, i2, b2, l2⟩, m12, m21⟩ := St.facts2 hC
          clear hC
          go_simp
          have hC := hC'.out
          (first
             | with_reducible rfl
             | ((first
                 | (go_at_call 15; refine (Pur.down (box_pur _) _).mono ?_)
                 | (go_at_call 19; refine (Pur.down (unbox_pur _) _).mono ?_)
                 | (go_at_call 8; refine (Pur.down (mul_pur _ _) _).mono ?_)
                 | (go_at_call 17; refine (mix_any _ _).mono ?_)
                 | (go_at_call 20; refine (unmix_any _ _).mono ?_))
                rintro e w' ⟨rfl, hw⟩
                exact ⟨rfl, St.call (by assumption) hw⟩)))
   try simp only [Act.put, List.setIfInBounds_toArray, List.set])
  refine wpQuiet_nil ?_
  intro w2 hC
  clear e1 e2 HC
  (have HC := Lib.hid hC
   have sos := hC.below.os
   obtain ⟨⟨r1, f1, i1, b1, l1⟩, ⟨r2, f2, i2, b2, l2⟩, m12, m21⟩ := St.facts2 hC
   clear hC)
  go_wp2_with fail
  (clear r1 f1 i1 b1 l1 r2 f2 i2 b2 l2 m12 m21 sos)
  have HC := Lib.hid ((HC.out.push (blk 4 fun _ => 0) 29).pushA (blk 4 fun _ => 0) 29 (g := w2.heap.size + 1) (by simp))
  generalize w2.heap.size = gs at HC ⊢
  refine St.region_store2 (w0 := w) 6 7 8 70 73 (blk 4 fun _ => 0) (blk 4 fun _ => 0) (blk 4 (Gf.mix c)) (blk 4 (Gf.mix (snd4 c))) (.agg (blk 4 (Gf.mix c))) (.agg (blk 4 (Gf.mix (snd4 c)))) 29 29 HC.out (by kernel_rfl) (by decide +kernel) _ _ _ _ rfl rfl rfl rfl
    (fun w a => by simp [go_sem, ptrTo, hz]) (fun w a => by simp [go_sem, ptrTo, hz]) (stores_whole 29 _ _ (by simp [blk_size]) (fun w => by simp [go_sem]) (oneCells_blk _ _) rfl) (stores_whole 29 _ _ (by simp [blk_size]) (fun w => by simp [go_sem]) (oneCells_blk _ _) rfl) (by simp) ?_
  (simp only [List.take])
  (apply walkB_step
   focus
     intro w0' hC
     have hC' := Lib.hid hC
     obtain ⟨⟨r1, f1, i1, b1, l1⟩, ⟨r2, f2, i2, b2', l2⟩, m12, m21⟩ := St.facts2 (hC.pick [2, 3] (by decide) rfl)
     clear hC
     go_simp
     (first
        | with_reducible rfl
        | exact mix_any _ _)
   try simp only [Act.put, List.setIfInBounds_toArray, List.set])
  (apply walkB_step
   focus
     intro w0' hC
     have hC' := Lib.hid hC
     obtain ⟨⟨r1, f1, i1, b1, l1⟩, ⟨r2, f2, i2, b2', l2⟩, m12, m21⟩ := St.facts2 (hC.pick [2, 3] (by decide) rfl)
     clear hC
     go_simp
     (first
        | with_reducible rfl
        | exact mix_any _ _)
   try simp only [Act.put, List.setIfInBounds_toArray, List.set])
  (apply walkB_step
   focus
     intro w0' hC
     have hC' := Lib.hid hC
     obtain ⟨⟨r1, f1, i1, b1, l1⟩, ⟨r2, f2, i2, b2', l2⟩, m12, m21⟩ := St.facts2 (hC.pick [2, 3] (by decide) rfl)
     clear hC
     go_simp
     (first
        | with_reducible rfl
        | exact mix_any _ _)
   try simp only [Act.put, List.setIfInBounds_toArray, List.set])
  (apply walkB_step
   focus
     intro w0' hC
     have hC' := Lib.hid hC
     obtain ⟨⟨r1, f1, i1, b1, l1⟩, ⟨r2, f2, i2, b2', l2⟩, m12, m21⟩ := St.facts2 (hC.pick [2, 3] (by decide) rfl)
     clear hC
     go_simp
     (first
        | with_reducible rfl
        | exact mix_any _ _)
   try simp only [Act.put, List.setIfInBounds_toArray, List.set])
  (apply walkB_step
   focus
     intro w0' hC
     have hC' := Lib.hid hC
     obtain ⟨⟨r1, f1, i1, b1, l1⟩, ⟨r2, f2, i2, b2', l2⟩, m12, m21⟩ := St.facts2 (hC.pick [2, 3] (by decide) rfl)
     clear hC
     go_simp
     (first
        | with_reducible rfl
        | exact mix_any _ _)
   try simp only [Act.put, List.setIfInBounds_toArray, List.set])
  (apply walkB_step
   focus
     intro w0' hC
     have hC' := Lib.hid hC
     obtain ⟨⟨r1, f1, i1, b1, l1⟩, ⟨r2, f2, i2, b2', l2⟩, m12, m21⟩ := St.facts2 (hC.pick [2, 3] (by decide) rfl)
     clear hC
     go_simp
     (first
        | with_reducible rfl
        | exact mix_any _ _)
   try simp only [Act.put, List.setIfInBounds_toArray, List.set])
  refine walkB_nil ⟨⟨rfl, rfl⟩, ?_⟩
  intro w3 g1 g2 hC
  unfold ptrTo
  have HC := Lib.hid (hC.pick [3, 2, 4, 5, 1, 0] (by decide) rfl)
  have sos := hC.below.os
  clear hC
  go_wp2_with fail
  clear sos
  go_loopw [9] (fun i wr => ∃ k : Nat, k ≤ 4 ∧ i = .int .i64 (k : Int) ∧ Hid (St w [(gs, blk 4 (toK (Ci.xorB c (snd4 c)) k)), (gs + 1, blk 4 (toK (mulC (a 1) c) k)), (w.heap.size + 1, blk 8 c), (w.heap.size, blk 2 a), (g1, blk 4 (Gf.mix c)), (g2, blk 4 (Gf.mix (snd4 c)))] wr)) (fun i _ => 4 - (intOf i).toNat)
  case atStart => exact ⟨0, by omega, rfl, by rw [toK_zero, toK_zero]; exact HC⟩
  case round =>
    clear HC
    obtain ⟨k, hk, rfl, HR⟩ := hrel
    by_cases hlt : k < 4
    · have hd : ((k : Int) < 4) := by omega
      have b2 : 4 + k < 8 := by omega
      have b3 : k < 8 := by omega
      go_wp2_with fail
      refine St.region_tail 11 HR.out (by kernel_rfl) (by decide +kernel) ?_
      (simp only [List.take, List.drop])
      (first
         | (apply head_skip rfl)
         | (apply head_step_g rfl
            focus
              intro w0' hC
              have hC' := Lib.hid hC
              obtain ⟨⟨r1, f1, i1, b1, l1⟩, ⟨r2, f2, i2, b2', l2⟩, ⟨r3, f3, i3, b3', l3⟩, ⟨r4, f4, i4, b4, l4⟩, m12, m21, m13, m31, m14, m41, m23, m32, m24, m42, m34, m43⟩ := St.facts4 (hC.pick [0, 1, 2, 3] (by decide) rfl)
              clear hC
              go_simp
              have hC := hC'.out
              (first
                 | with_reducible rfl
                 | ((first
                     | (go_at_call 15; refine (Pur.down (box_pur _) _).mono ?_)
                     | (go_at_call 19; refine (Pur.down (unbox_pur _) _).mono ?_)
                     | (go_at_call 8; refine (Pur.down (mul_pur _ _) _).mono ?_)
                     | (go_at_call 17; refine (mix_any _ _).mono ?_)
                     | (go_at_call 20; refine (unmix_any _ _).mono ?_))
                    rintro e w' ⟨rfl, hw⟩
                    exact ⟨rfl, St.call (by assumption) hw⟩)))
       try simp only [Act.put, List.setIfInBounds_toArray, List.set])
      (first
         | (apply head_skip rfl)
         | (apply head_step_g rfl
            focus
              intro w0' hC
              have hC' := Lib.hid hC
              obtain ⟨⟨r1, f1, i1, b1, l1⟩, ⟨r2, f2, i2, b2', l2⟩, ⟨r3, f3, i3, b3', l3⟩, ⟨r4, f4, i4, b4, l4⟩, m12, m21, m13, m31, m14, m41, m23, m32, m24, m42, m34, m43⟩ := St.facts4 (hC.pick [0, 1, 2, 3] (by decide) rfl)
              clear hC
              go_simp
              have hC := hC'.out
              (first
                 | with_reducible rfl
                 | ((first
                     | (go_at_call 15; refine (Pur.down (box_pur _) _).mono ?_)
                     | (go_at_call 19; refine (Pur.down (unbox_pur _) _).mono ?_)
                     | (go_at_call 8; refine (Pur.down (mul_pur _ _) _).mono ?_)
                     | (go_at_call 17; refine (mix_any _ _).mono ?_)
                     | (go_at_call 20; refine (unmix_any _ _).mono ?_))
                    rintro e w' ⟨rfl, hw⟩
                    exact ⟨rfl, St.call (by assumption) hw⟩)))
       try simp only [Act.put, List.setIfInBounds_toArray, List.set])
      (first
         | (apply head_skip rfl)
         | (apply head_step_g rfl
            focus
              intro w0' hC
              have hC' := Lib.hid hC
              obtain ⟨⟨r1, f1, i1, b1, l1⟩, ⟨r2, f2, i2, b2', l2⟩, ⟨r3, f3, i3, b3', l3⟩, ⟨r4, f4, i4, b4, l4⟩, m12, m21, m13, m31, m14, m41, m23, m32, m24, m42, m34, m43⟩ := St.facts4 (hC.pick [0, 1, 2, 3] (by decide) rfl)
              clear hC
              go_simp
              have hC := hC'.out
              (first
                 | with_reducible rfl
                 | ((first
                     | (go_at_call 15; refine (Pur.down (box_pur _) _).mono ?_)
                     | (go_at_call 19; refine (Pur.down (unbox_pur _) _).mono ?_)
                     | (go_at_call 8; refine (Pur.down (mul_pur _ _) _).mono ?_)
                     | (go_at_call 17; refine (mix_any _ _).mono ?_)
                     | (go_at_call 20; refine (unmix_any _ _).mono ?_))
                    rintro e w' ⟨rfl, hw⟩
                    exact ⟨rfl, St.call (by assumption) hw⟩)))
       try simp only [Act.put, List.setIfInBounds_toArray, List.set])
      (first
         | (apply head_skip rfl)
         | (apply head_step_g rfl
            focus
              intro w0' hC
              have hC' := Lib.hid hC
              obtain ⟨⟨r1, f1, i1, b1, l1⟩, ⟨r2, f2, i2, b2', l2⟩, ⟨r3, f3, i3, b3', l3⟩, ⟨r4, f4, i4, b4, l4⟩, m12, m21, m13, m31, m14, m41, m23, m32, m24, m42, m34, m43⟩ := St.facts4 (hC.pick [0, 1, 2, 3] (by decide) rfl)
              clear hC
              go_simp
              have hC := hC'.out
              (first
                 | with_reducible rfl
                 | ((first
                     | (go_at_call 15; refine (Pur.down (box_pur _) _).mono ?_)
                     | (go_at_call 19; refine (Pur.down (unbox_pur _) _).mono ?_)
                     | (go_at_call 8; refine (Pur.down (mul_pur _ _) _).mono ?_)
                     | (go_at_call 17; refine (mix_any _ _).mono ?_)
                     | (go_at_call 20; refine (unmix_any _ _).mono ?_))
                    rintro e w' ⟨rfl, hw⟩
                    exact ⟨rfl, St.call (by assumption) hw⟩)))
       try simp only [Act.put, List.setIfInBounds_toArray, List.set])
      (first
         | (apply head_skip rfl)
         | (apply head_step_g rfl
            focus
              intro w0' hC
              have hC' := Lib.hid hC
              obtain ⟨⟨r1, f1, i1, b1, l1⟩, ⟨r2, f2, i2, b2', l2⟩, ⟨r3, f3, i3, b3', l3⟩, ⟨r4, f4, i4, b4, l4⟩, m12, m21, m13, m31, m14, m41, m23, m32, m24, m42, m34, m43⟩ := St.facts4 (hC.pick [0, 1, 2, 3] (by decide) rfl)
              clear hC
              go_simp
              have hC := hC'.out
              (first
                 | with_reducible rfl
                 | ((first
                     | (go_at_call 15; refine (Pur.down (box_pur _) _).mono ?_)
                     | (go_at_call 19; refine (Pur.down (unbox_pur _) _).mono ?_)
                     | (go_at_call 8; refine (Pur.down (mul_pur _ _) _).mono ?_)
                     | (go_at_call 17; refine (mix_any _ _).mono ?_)
                     | (go_at_call 20; refine (unmix_any _ _).mono ?_))
                    rintro e w' ⟨rfl, hw⟩
                    exact ⟨rfl, St.call (by assumption) hw⟩)))
       try simp only [Act.put, List.setIfInBounds_toArray, List.set])
      (first
         | (apply head_skip rfl)
         | (apply head_step_g rfl
            focus
              intro w0' hC
              have hC' := Lib.hid hC
              obtain ⟨⟨r1, f1, i1, b1, l1⟩, ⟨r2, f2, i2, b2', l2⟩, ⟨r3, f3, i3, b3', l3⟩, ⟨r4, f4, i4, b4, l4⟩, m12, m21, m13, m31, m14, m41, m23, m32, m24, m42, m34, m43⟩ := St.facts4 (hC.pick [0, 1, 2, 3] (by decide) rfl)
              clear hC
              go_simp
              have hC := hC'.out
              (first
                 | with_reducible rfl
                 | ((first
                     | (go_at_call 15; refine (Pur.down (box_pur _) _).mono ?_)
                     | (go_at_call 19; refine (Pur.down (unbox_pur _) _).mono ?_)
                     | (go_at_call 8; refine (Pur.down (mul_pur _ _) _).mono ?_)
                     | (go_at_call 17; refine (mix_any _ _).mono ?_)
                     | (go_at_call 20; refine (unmix_any _ _).mono ?_))
                    rintro e w' ⟨rfl, hw⟩
                    exact ⟨rfl, St.call (by assumption) hw⟩)))
       try simp only [Act.put, List.setIfInBounds_toArray, List.set])
      (first
         | (apply head_skip rfl)
         | (apply head_step_g rfl
            focus
              intro w0' hC
              have hC' := Lib.hid hC
              obtain ⟨⟨r1, f1, i1, b1, l1⟩, ⟨r2, f2, i2, b2', l2⟩, ⟨r3, f3, i3, b3', l3⟩, ⟨r4, f4, i4, b4, l4⟩, m12, m21, m13, m31, m14, m41, m23, m32, m24, m42, m34, m43⟩ := St.facts4 (hC.pick [0, 1, 2, 3] (by decide) rfl)
              clear hC
              go_simp
              have hC := hC'.out
              (first
                 | with_reducible rfl
                 | ((first
                     | (go_at_call 15; refine (Pur.down (box_pur _) _).mono ?_)
                     | (go_at_call 19; refine (Pur.down (unbox_pur _) _).mono ?_)
                     | (go_at_call 8; refine (Pur.down (mul_pur _ _) _).mono ?_)
                     | (go_at_call 17; refine (mix_any _ _).mono ?_)
                     | (go_at_call 20; refine (unmix_any _ _).mono ?_))
                    rintro e w' ⟨rfl, hw⟩
                    exact ⟨rfl, St.call (by assumption) hw⟩)))
       try simp only [Act.put, List.setIfInBounds_toArray, List.set])
      (first
         | (apply head_skip rfl)
         | (apply head_step_g rfl
            focus
              intro w0' hC
              have hC' := Lib.hid hC
              obtain ⟨⟨r1, f1, i1, b1, l1⟩, ⟨r2, f2, i2, b2', l2⟩, ⟨r3, f3, i3, b3', l3⟩, ⟨r4, f4, i4, b4, l4⟩, m12, m21, m13, m31, m14, m41, m23, m32, m24, m42, m34, m43⟩ := St.facts4 (hC.pick [0, 1, 2, 3] (by decide) rfl)
              clear hC
              go_simp
              have hC := hC'.out
              (first
                 | with_reducible rfl
                 | ((first
                     | (go_at_call 15; refine (Pur.down (box_pur _) _).mono ?_)
                     | (go_at_call 19; refine (Pur.down (unbox_pur _) _).mono ?_)
                     | (go_at_call 8; refine (Pur.down (mul_pur _ _) _).mono ?_)
                     | (go_at_call 17; refine (mix_any _ _).mono ?_)
                     | (go_at_call 20; refine (unmix_any _ _).mono ?_))
                    rintro e w' ⟨rfl, hw⟩
                    exact ⟨rfl, St.call (by assumption) hw⟩)))
       try simp only [Act.put, List.setIfInBounds_toArray, List.set])
      (first
         | (apply head_skip rfl)
         | (apply head_step_g rfl
            focus
              intro w0' hC
              have hC' := Lib.hid hC
              obtain ⟨⟨r1, f1, i1, b1, l1⟩, ⟨r2, f2, i2, b2', l2⟩, ⟨r3, f3, i3, b3', l3⟩, ⟨r4, f4, i4, b4, l4⟩, m12, m21, m13, m31, m14, m41, m23, m32, m24, m42, m34, m43⟩ := St.facts4 (hC.pick [0, 1, 2, 3] (by decide) rfl)
              clear hC
              go_simp
              have hC := hC'.out
              (first
                 | with_reducible rfl
                 | ((first
                     | (go_at_call 15; refine (Pur.down (box_pur _) _).mono ?_)
                     | (go_at_call 19; refine (Pur.down (unbox_pur _) _).mono ?_)
                     | (go_at_call 8; refine (Pur.down (mul_pur _ _) _).mono ?_)
                     | (go_at_call 17; refine (mix_any _ _).mono ?_)
                     | (go_at_call 20; refine (unmix_any _ _).mono ?_))
                    rintro e w' ⟨rfl, hw⟩
                    exact ⟨rfl, St.call (by assumption) hw⟩)))
       try simp only [Act.put, List.setIfInBounds_toArray, List.set])
      (first
         | (apply head_skip rfl)
         | (apply head_step_g rfl
            focus
              intro w0' hC
              have hC' := Lib.hid hC
              obtain ⟨⟨r1, f1, i1, b1, l1⟩, ⟨r2, f2, i2, b2', l2⟩, ⟨r3, f3, i3, b3', l3⟩, ⟨r4, f4, i4, b4, l4⟩, m12, m21, m13, m31, m14, m41, m23, m32, m24, m42, m34, m43⟩ := St.facts4 (hC.pick [0, 1, 2, 3] (by decide) rfl)
              clear hC
              go_simp
              have hC := hC'.out
              (first
                 | with_reducible rfl
                 | ((first
                     | (go_at_call 15; refine (Pur.down (box_pur _) _).mono ?_)
                     | (go_at_call 19; refine (Pur.down (unbox_pur _) _).mono ?_)
                     | (go_at_call 8; refine (Pur.down (mul_pur _ _) _).mono ?_)
                     | (go_at_call 17; refine (mix_any _ _).mono ?_)
                     | (go_at_call 20; refine (unmix_any _ _).mono ?_))
                    rintro e w' ⟨rfl, hw⟩
                    exact ⟨rfl, St.call (by assumption) hw⟩)))
       try simp only [Act.put, List.setIfInBounds_toArray, List.set])
      (first
         | (apply head_skip rfl)
         | (apply head_step_g rfl
            focus
              intro w0' hC
              have hC' := Lib.hid hC
              obtain ⟨⟨r1, f1, i1, b1, l1⟩, ⟨r2, f2, i2, b2', l2⟩, ⟨r3, f3, i3, b3', l3⟩, ⟨r4, f4, i4, b4, l4⟩, m12, m21, m13, m31, m14, m41, m23, m32, m24, m42, m34, m43⟩ := St.facts4 (hC.pick [0, 1, 2, 3] (by decide) rfl)
              clear hC
              go_simp
              have hC := hC'.out
              (first
                 | with_reducible rfl
                 | ((first
                     | (go_at_call 15; refine (Pur.down (box_pur _) _).mono ?_)
                     | (go_at_call 19; refine (Pur.down (unbox_pur _) _).mono ?_)
                     | (go_at_call 8; refine (Pur.down (mul_pur _ _) _).mono ?_)
                     | (go_at_call 17; refine (mix_any _ _).mono ?_)
                     | (go_at_call 20; refine (unmix_any _ _).mono ?_))
                    rintro e w' ⟨rfl, hw⟩
                    exact ⟨rfl, St.call (by assumption) hw⟩)))
       try simp only [Act.put, List.setIfInBounds_toArray, List.set])
      refine wpQuiet_nil ?_
      intro w4 hC
      have e1 : blk 4 (upd (toK (Ci.xorB c (snd4 c)) k) k (c k ^^^ c (4 + k))) = blk 4 (toK (Ci.xorB c (snd4 c)) (k + 1)) := toK_next 4 (Ci.xorB c (snd4 c)) k
      have HC := Lib.hid hC
      have sos := hC.below.os
      obtain ⟨r1, f1, i1, b1, l1⟩ := St.head1 hC
      clear hC
      go_wp2_with fail
      have HC := Lib.hid (HC.out.set_head (blk 4 (toK (Ci.xorB c (snd4 c)) (k + 1))))
      clear sos r1 f1 i1 b1 l1 e1
      have HC := Lib.hid (HC.out.pick [1, 0, 2, 3, 4, 5] (by decide) rfl)
      refine St.region_tail 9 HC.out (by kernel_rfl) (by decide +kernel) ?_
      (simp only [List.take, List.drop])
      (first
         | (apply head_skip rfl)
         | (apply head_step_g rfl
            focus
              intro w0' hC
              have hC' := Lib.hid hC
              obtain ⟨⟨r1, f1, i1, b1, l1⟩, ⟨r2, f2, i2, b2', l2⟩, ⟨r3, f3, i3, b3', l3⟩, ⟨r4, f4, i4, b4, l4⟩, m12, m21, m13, m31, m14, m41, m23, m32, m24, m42, m34, m43⟩ := St.facts4 (hC.pick [0, 1, 2, 3] (by decide) rfl)
              clear hC
              go_simp
              have hC := hC'.out
              (first
                 | with_reducible rfl
                 | ((first
                     | (go_at_call 15; refine (Pur.down (box_pur _) _).mono ?_)
                     | (go_at_call 19; refine (Pur.down (unbox_pur _) _).mono ?_)
                     | (go_at_call 8; refine (Pur.down (mul_pur _ _) _).mono ?_)
                     | (go_at_call 17; refine (mix_any _ _).mono ?_)
                     | (go_at_call 20; refine (unmix_any _ _).mono ?_))
                    rintro e w' ⟨rfl, hw⟩
                    exact ⟨rfl, St.call (by assumption) hw⟩)))
       try simp only [Act.put, List.setIfInBounds_toArray, List.set])
      (first
         | (apply head_skip rfl)
         | (apply head_step_g rfl
            focus
              intro w0' hC
              have hC' := Lib.hid hC
              obtain ⟨⟨r1, f1, i1, b1, l1⟩, ⟨r2, f2, i2, b2', l2⟩, ⟨r3, f3, i3, b3', l3⟩, ⟨r4, f4, i4, b4, l4⟩, m12, m21, m13, m31, m14, m41, m23, m32, m24, m42, m34, m43⟩ := St.facts4 (hC.pick [0, 1, 2, 3] (by decide) rfl)
              clear hC
              go_simp
              have hC := hC'.out
              (first
                 | with_reducible rfl
                 | ((first
                     | (go_at_call 15; refine (Pur.down (box_pur _) _).mono ?_)
                     | (go_at_call 19; refine (Pur.down (unbox_pur _) _).mono ?_)
                     | (go_at_call 8; refine (Pur.down (mul_pur _ _) _).mono ?_)
                     | (go_at_call 17; refine (mix_any _ _).mono ?_)
                     | (go_at_call 20; refine (unmix_any _ _).mono ?_))
                    rintro e w' ⟨rfl, hw⟩
                    exact ⟨rfl, St.call (by assumption) hw⟩)))
       try simp only [Act.put, List.setIfInBounds_toArray, List.set])
      (first
         | (apply head_skip rfl)
         | (apply head_step_g rfl
            focus
              intro w0' hC
              have hC' := Lib.hid hC
              obtain ⟨⟨r1, f1, i1, b1, l1⟩, ⟨r2, f2, i2, b2', l2⟩, ⟨r3, f3, i3, b3', l3⟩, ⟨r4, f4, i4, b4, l4⟩, m12, m21, m13, m31, m14, m41, m23, m32, m24, m42, m34, m43⟩ := St.facts4 (hC.pick [0, 1, 2, 3] (by decide) rfl)
              clear hC
              go_simp
              have hC := hC'.out
              (first
                 | with_reducible rfl
                 | ((first
                     | (go_at_call 15; refine (Pur.down (box_pur _) _).mono ?_)
                     | (go_at_call 19; refine (Pur.down (unbox_pur _) _).mono ?_)
                     | (go_at_call 8; refine (Pur.down (mul_pur _ _) _).mono ?_)
                     | (go_at_call 17; refine (mix_any _ _).mono ?_)
                     | (go_at_call 20; refine (unmix_any _ _).mono ?_))
                    rintro e w' ⟨rfl, hw⟩
                    exact ⟨rfl, St.call (by assumption) hw⟩)))
       try simp only [Act.put, List.setIfInBounds_toArray, List.set])
      (first
         | (apply head_skip rfl)
         | (apply head_step_g rfl
            focus
              intro w0' hC
              have hC' := Lib.hid hC
              obtain ⟨⟨r1, f1, i1, b1, l1⟩, ⟨r2, f2, i2, b2', l2⟩, ⟨r3, f3, i3, b3', l3⟩, ⟨r4, f4, i4, b4, l4⟩, m12, m21, m13, m31, m14, m41, m23, m32, m24, m42, m34, m43⟩ := St.facts4 (hC.pick [0, 1, 2, 3] (by decide) rfl)
              clear hC
              go_simp
              have hC := hC'.out
              (first
                 | with_reducible rfl
                 | ((first
                     | (go_at_call 15; refine (Pur.down (box_pur _) _).mono ?_)
                     | (go_at_call 19; refine (Pur.down (unbox_pur _) _).mono ?_)
                     | (go_at_call 8; refine (Pur.down (mul_pur _ _) _).mono ?_)
                     | (go_at_call 17; refine (mix_any _ _).mono ?_)
                     | (go_at_call 20; refine (unmix_any _ _).mono ?_))
                    rintro e w' ⟨rfl, hw⟩
                    exact ⟨rfl, St.call (by assumption) hw⟩)))
       try simp only [Act.put, List.setIfInBounds_toArray, List.set])
      (first
         | (apply head_skip rfl)
         | (apply head_step_g rfl
            focus
              intro w0' hC
              have hC' := Lib.hid hC
              obtain ⟨⟨r1, f1, i1, b1, l1⟩, ⟨r2, f2, i2, b2', l2⟩, ⟨r3, f3, i3, b3', l3⟩, ⟨r4, f4, i4, b4, l4⟩, m12, m21, m13, m31, m14, m41, m23, m32, m24, m42, m34, m43⟩ := St.facts4 (hC.pick [0, 1, 2, 3] (by decide) rfl)
              clear hC
              go_simp
              have hC := hC'.out
              (first
                 | with_reducible rfl
                 | ((first
                     | (go_at_call 15; refine (Pur.down (box_pur _) _).mono ?_)
                     | (go_at_call 19; refine (Pur.down (unbox_pur _) _).mono ?_)
                     | (go_at_call 8; refine (Pur.down (mul_pur _ _) _).mono ?_)
                     | (go_at_call 17; refine (mix_any _ _).mono ?_)
                     | (go_at_call 20; refine (unmix_any _ _).mono ?_))
                    rintro e w' ⟨rfl, hw⟩
                    exact ⟨rfl, St.call (by assumption) hw⟩)))
       try simp only [Act.put, List.setIfInBounds_toArray, List.set])
      (first
         | (apply head_skip rfl)
         | (apply head_step_g rfl
            focus
              intro w0' hC
              have hC' := Lib.hid hC
              obtain ⟨⟨r1, f1, i1, b1, l1⟩, ⟨r2, f2, i2, b2', l2⟩, ⟨r3, f3, i3, b3', l3⟩, ⟨r4, f4, i4, b4, l4⟩, m12, m21, m13, m31, m14, m41, m23, m32, m24, m42, m34, m43⟩ := St.facts4 (hC.pick [0, 1, 2, 3] (by decide) rfl)
              clear hC
              go_simp
              have hC := hC'.out
              (first
                 | with_reducible rfl
                 | ((first
                     | (go_at_call 15; refine (Pur.down (box_pur _) _).mono ?_)
                     | (go_at_call 19; refine (Pur.down (unbox_pur _) _).mono ?_)
                     | (go_at_call 8; refine (Pur.down (mul_pur _ _) _).mono ?_)
                     | (go_at_call 17; refine (mix_any _ _).mono ?_)
                     | (go_at_call 20; refine (unmix_any _ _).mono ?_))
                    rintro e w' ⟨rfl, hw⟩
                    exact ⟨rfl, St.call (by assumption) hw⟩)))
       try simp only [Act.put, List.setIfInBounds_toArray, List.set])
      (first
         | (apply head_skip rfl)
         | (apply head_step_g rfl
            focus
              intro w0' hC
              have hC' := Lib.hid hC
              obtain ⟨⟨r1, f1, i1, b1, l1⟩, ⟨r2, f2, i2, b2', l2⟩, ⟨r3, f3, i3, b3', l3⟩, ⟨r4, f4, i4, b4, l4⟩, m12, m21, m13, m31, m14, m41, m23, m32, m24, m42, m34, m43⟩ := St.facts4 (hC.pick [0, 1, 2, 3] (by decide) rfl)
              clear hC
              go_simp
              have hC := hC'.out
              (first
                 | with_reducible rfl
                 | ((first
                     | (go_at_call 15; refine (Pur.down (box_pur _) _).mono ?_)
                     | (go_at_call 19; refine (Pur.down (unbox_pur _) _).mono ?_)
                     | (go_at_call 8; refine (Pur.down (mul_pur _ _) _).mono ?_)
                     | (go_at_call 17; refine (mix_any _ _).mono ?_)
                     | (go_at_call 20; refine (unmix_any _ _).mono ?_))
                    rintro e w' ⟨rfl, hw⟩
                    exact ⟨rfl, St.call (by assumption) hw⟩)))
       try simp only [Act.put, List.setIfInBounds_toArray, List.set])
      (first
         | (apply head_skip rfl)
         | (apply head_step_g rfl
            focus
              intro w0' hC
              have hC' := Lib.hid hC
              obtain ⟨⟨r1, f1, i1, b1, l1⟩, ⟨r2, f2, i2, b2', l2⟩, ⟨r3, f3, i3, b3', l3⟩, ⟨r4, f4, i4, b4, l4⟩, m12, m21, m13, m31, m14, m41, m23, m32, m24, m42, m34, m43⟩ := St.facts4 (hC.pick [0, 1, 2, 3] (by decide) rfl)
              clear hC
              go_simp
              have hC := hC'.out
              (first
                 | with_reducible rfl
                 | ((first
                     | (go_at_call 15; refine (Pur.down (box_pur _) _).mono ?_)
                     | (go_at_call 19; refine (Pur.down (unbox_pur _) _).mono ?_)
                     | (go_at_call 8; refine (Pur.down (mul_pur _ _) _).mono ?_)
                     | (go_at_call 17; refine (mix_any _ _).mono ?_)
                     | (go_at_call 20; refine (unmix_any _ _).mono ?_))
                    rintro e w' ⟨rfl, hw⟩
                    exact ⟨rfl, St.call (by assumption) hw⟩)))
       try simp only [Act.put, List.setIfInBounds_toArray, List.set])
      (first
         | (apply head_skip rfl)
         | (apply head_step_g rfl
            focus
              intro w0' hC
              have hC' := Lib.hid hC
              obtain ⟨⟨r1, f1, i1, b1, l1⟩, ⟨r2, f2, i2, b2', l2⟩, ⟨r3, f3, i3, b3', l3⟩, ⟨r4, f4, i4, b4, l4⟩, m12, m21, m13, m31, m14, m41, m23, m32, m24, m42, m34, m43⟩ := St.facts4 (hC.pick [0, 1, 2, 3] (by decide) rfl)
              clear hC
              go_simp
              have hC := hC'.out
              (first
                 | with_reducible rfl
                 | ((first
                     | (go_at_call 15; refine (Pur.down (box_pur _) _).mono ?_)
                     | (go_at_call 19; refine (Pur.down (unbox_pur _) _).mono ?_)
                     | (go_at_call 8; refine (Pur.down (mul_pur _ _) _).mono ?_)
                     | (go_at_call 17; refine (mix_any _ _).mono ?_)
                     | (go_at_call 20; refine (unmix_any _ _).mono ?_))
                    rintro e w' ⟨rfl, hw⟩
                    exact ⟨rfl, St.call (by assumption) hw⟩)))
       try simp only [Act.put, List.setIfInBounds_toArray, List.set])
      refine wpQuiet_nil ?_
      intro w5 hC
      have e1 : blk 4 (upd (toK (mulC (a 1) c) k) k (Gf.mul (a 1) (c k))) = blk 4 (toK (mulC (a 1) c) (k + 1)) := toK_next 4 (mulC (a 1) c) k
      clear HC
      have HC := Lib.hid hC
      have sos := hC.below.os
      obtain ⟨r1, f1, i1, b1, l1⟩ := St.head1 hC
      clear hC
      go_wp2_with fail
      have HC := Lib.hid (HC.out.set_head (blk 4 (toK (mulC (a 1) c) (k + 1))))
      have HC := Lib.hid (HC.out.pick [1, 0, 2, 3, 4, 5] (by decide) rfl)
      exact ⟨⟨k + 1, by omega, by go_num, HC⟩, by simp [intOf]; omega⟩
    · obtain rfl : k = 4 := by omega
      have HC := Lib.hid HR.out
      rw [toK_all, toK_all] at HC
      have sos := HR.out.below.os
      clear HR
      go_wp2_with fail
      clear sos
      as_aux_lemma =>
        refine St.region_store2 (w0 := w) 4 10 11 99 101 (blk 4 fun _ => 0) (blk 4 fun _ => 0) (blk 4 (Gf.mix (Ci.xorB c (snd4 c)))) (blk 4 (Gf.mix (mulC (a 1) c))) (.agg (blk 4 (Gf.mix (Ci.xorB c (snd4 c))))) (.agg (blk 4 (Gf.mix (mulC (a 1) c)))) 29 29 HC.out (by kernel_rfl) (by decide +kernel) _ _ _ _ rfl rfl rfl rfl
          (fun w a => by simp [go_sem, ptrTo, hz]) (fun w a => by simp [go_sem, ptrTo, hz]) (stores_whole 29 _ _ (by simp [blk_size]) (fun w => by simp [go_sem]) (oneCells_blk _ _) rfl) (stores_whole 29 _ _ (by simp [blk_size]) (fun w => by simp [go_sem]) (oneCells_blk _ _) rfl) (by simp) ?_
        (simp only [List.take])
        (apply walkB_step
         focus
           intro w0' hC
           have hC' := Lib.hid hC
           obtain ⟨⟨r1, f1, i1, b1, l1⟩, ⟨r2, f2, i2, b2', l2⟩, m12, m21⟩ := St.facts2 (hC.pick [0, 1] (by decide) rfl)
           clear hC
           go_simp
           (first
              | with_reducible rfl
              | exact mix_any _ _)
         try simp only [Act.put, List.setIfInBounds_toArray, List.set])
        (apply walkB_step
         focus
           intro w0' hC
           have hC' := Lib.hid hC
           obtain ⟨⟨r1, f1, i1, b1, l1⟩, ⟨r2, f2, i2, b2', l2⟩, m12, m21⟩ := St.facts2 (hC.pick [0, 1] (by decide) rfl)
           clear hC
           go_simp
           (first
              | with_reducible rfl
              | exact mix_any _ _)
         try simp only [Act.put, List.setIfInBounds_toArray, List.set])
        (apply walkB_step
         focus
           intro w0' hC
           have hC' := Lib.hid hC
           obtain ⟨⟨r1, f1, i1, b1, l1⟩, ⟨r2, f2, i2, b2', l2⟩, m12, m21⟩ := St.facts2 (hC.pick [0, 1] (by decide) rfl)
           clear hC
           go_simp
           (first
              | with_reducible rfl
              | exact mix_any _ _)
         try simp only [Act.put, List.setIfInBounds_toArray, List.set])
        (apply walkB_step
         focus
           intro w0' hC
           have hC' := Lib.hid hC
           obtain ⟨⟨r1, f1, i1, b1, l1⟩, ⟨r2, f2, i2, b2', l2⟩, m12, m21⟩ := St.facts2 (hC.pick [0, 1] (by decide) rfl)
           clear hC
           go_simp
           (first
              | with_reducible rfl
              | exact mix_any _ _)
         try simp only [Act.put, List.setIfInBounds_toArray, List.set])
        refine walkB_nil ⟨⟨rfl, rfl⟩, ?_⟩
        intro w6 g3 g4 hC
        unfold ptrTo
        have HC := Lib.hid (hC.pick [1, 0, 6, 7, 5] (by decide) rfl)
        have sos := hC.below.os
        clear hC
        go_wp2_with fail
        clear sos
        go_loopw [12] (fun i wr => ∃ k : Nat, k ≤ 4 ∧ i = .int .i64 (k : Int) ∧ Hid (St w [(g3, blk 4 (Gf.mix (Ci.xorB c (snd4 c)))), (g4, blk 4 (Gf.mix (mulC (a 1) c))), (g1, blk 4 (Gf.mix c)), (g2, blk 4 (Gf.mix (snd4 c))), (w.heap.size, blk 2 a)] wr)) (fun i _ => 4 - (intOf i).toNat)
        case atStart => exact ⟨0, by omega, rfl, HC⟩
        case round =>
          clear HC
          obtain ⟨k, hk, rfl, HR⟩ := hrel
          by_cases hlt : k < 4
          · have hd : ((k : Int) < 4) := by omega
            have e1 := mix_add c (snd4 c) k
            have e2 := mix_mul (a 1) c k
            go_wp2_with fail
            refine St.region HR.out (by kernel_rfl) (by kernel_rfl) ?_
            (first
               | (apply head_skip rfl)
               | (apply head_step_g rfl
                  focus
                    intro w0 hC
                    (exact neq_quiet 29 rfl rfl rfl Try.eqGuardType29 Try.underlying29 (by simp [go_sem]) (by simp [go_sem]) (by with_reducible assumption)))
               | (apply head_step_g rfl
                  focus
                    intro w0 hC
                    have hC' := Lib.hid hC
                    obtain ⟨⟨r1, f1, i1, b1, l1⟩, ⟨r2, f2, i2, b2, l2⟩, ⟨r3, f3, i3, b3, l3⟩, ⟨r4, f4, i4, b4, l4⟩, ⟨r5, f5, i5, b5, l5⟩, m12, m21, m13, m31, m14, m41, m15, m51, m23, m32, m24, m42, m25, m52, m34, m43, m35, m53, m45, m54⟩ := St.facts5 hC
                    clear hC
                    go_simp
                    have hC := hC'.out
                    (first
                       | with_reducible rfl
                       | ((first
                           | (go_at_call 15; refine (Pur.down (box_pur _) _).mono ?_)
                           | (go_at_call 19; refine (Pur.down (unbox_pur _) _).mono ?_)
                           | (go_at_call 8; refine (Pur.down (mul_pur _ _) _).mono ?_)
                           | (go_at_call 17; refine (mix_any _ _).mono ?_)
                           | (go_at_call 20; refine (unmix_any _ _).mono ?_))
                          rintro e w' ⟨rfl, hw⟩
                          exact ⟨rfl, St.call (by assumption) hw⟩)))
             try simp only [Act.put, List.setIfInBounds_toArray, List.set])
            (first
               | (apply head_skip rfl)
               | (apply head_step_g rfl
                  focus
                    intro w0 hC
                    (exact neq_quiet 29 rfl rfl rfl Try.eqGuardType29 Try.underlying29 (by simp [go_sem]) (by simp [go_sem]) (by with_reducible assumption)))
               | (apply head_step_g rfl
                  focus
                    intro w0 hC
                    have hC' := Lib.hid hC
                    obtain ⟨⟨r1, f1, i1, b1, l1⟩, ⟨r2, f2, i2, b2, l2⟩, ⟨r3, f3, i3, b3, l3⟩, ⟨r4, f4, i4, b4, l4⟩, ⟨r5, f5, i5, b5, l5⟩, m12, m21, m13, m31, m14, m41, m15, m51, m23, m32, m24, m42, m25, m52, m34, m43, m35, m53, m45, m54⟩ := St.facts5 hC
                    clear hC
                    go_simp
                    have hC := hC'.out
                    (first
                       | with_reducible rfl
                       | ((first
                           | (go_at_call 15; refine (Pur.down (box_pur _) _).mono ?_)
                           | (go_at_call 19; refine (Pur.down (unbox_pur _) _).mono ?_)
                           | (go_at_call 8; refine (Pur.down (mul_pur _ _) _).mono ?_)
                           | (go_at_call 17; refine (mix_any _ _).mono ?_)
                           | (go_at_call 20; refine (unmix_any _ _).mono ?_))
                          rintro e w' ⟨rfl, hw⟩
                          exact ⟨rfl, St.call (by assumption) hw⟩)))
             try simp only [Act.put, List.setIfInBounds_toArray, List.set])
            (first
               | (apply head_skip rfl)
               | (apply head_step_g rfl
                  focus
                    intro w0 hC
                    (exact neq_quiet 29 rfl rfl rfl Try.eqGuardType29 Try.underlying29 (by simp [go_sem]) (by simp [go_sem]) (by with_reducible assumption)))
               | (apply head_step_g rfl
                  focus
                    intro w0 hC
                    have hC' := Lib.hid hC
                    obtain ⟨⟨r1, f1, i1, b1, l1⟩, ⟨r2, f2, i2, b2, l2⟩, ⟨r3, f3, i3, b3, l3⟩, ⟨r4, f4, i4, b4, l4⟩, ⟨r5, f5, i5, b5, l5⟩, m12, m21, m13, m31, m14, m41, m15, m51, m23, m32, m24, m42, m25, m52, m34, m43, m35, m53, m45, m54⟩ := St.facts5 hC
                    clear hC
                    go_simp
                    have hC := hC'.out
                    (first
                       | with_reducible rfl
                       | ((first
                           | (go_at_call 15; refine (Pur.down (box_pur _) _).mono ?_)
                           | (go_at_call 19; refine (Pur.down (unbox_pur _) _).mono ?_)
                           | (go_at_call 8; refine (Pur.down (mul_pur _ _) _).mono ?_)
                           | (go_at_call 17; refine (mix_any _ _).mono ?_)
                           | (go_at_call 20; refine (unmix_any _ _).mono ?_))
                          rintro e w' ⟨rfl, hw⟩
                          exact ⟨rfl, St.call (by assumption) hw⟩)))
             try simp only [Act.put, List.setIfInBounds_toArray, List.set])
            (first
               | (apply head_skip rfl)
               | (apply head_step_g rfl
                  focus
                    intro w0 hC
                    (exact neq_quiet 29 rfl rfl rfl Try.eqGuardType29 Try.underlying29 (by simp [go_sem]) (by simp [go_sem]) (by with_reducible assumption)))
               | (apply head_step_g rfl
                  focus
                    intro w0 hC
                    have hC' := Lib.hid hC
                    obtain ⟨⟨r1, f1, i1, b1, l1⟩, ⟨r2, f2, i2, b2, l2⟩, ⟨r3, f3, i3, b3, l3⟩, ⟨r4, f4, i4, b4, l4⟩, ⟨r5, f5, i5, b5, l5⟩, m12, m21, m13, m31, m14, m41, m15, m51, m23, m32, m24, m42, m25, m52, m34, m43, m35, m53, m45, m54⟩ := St.facts5 hC
                    clear hC
                    go_simp
                    have hC := hC'.out
                    (first
                       | with_reducible rfl
                       | ((first
                           | (go_at_call 15; refine (Pur.down (box_pur _) _).mono ?_)
                           | (go_at_call 19; refine (Pur.down (unbox_pur _) _).mono ?_)
                           | (go_at_call 8; refine (Pur.down (mul_pur _ _) _).mono ?_)
                           | (go_at_call 17; refine (mix_any _ _).mono ?_)
                           | (go_at_call 20; refine (unmix_any _ _).mono ?_))
                          rintro e w' ⟨rfl, hw⟩
                          exact ⟨rfl, St.call (by assumption) hw⟩)))
             try simp only [Act.put, List.setIfInBounds_toArray, List.set])
            (first
               | (apply head_skip rfl)
               | (apply head_step_g rfl
                  focus
                    intro w0 hC
                    (exact neq_quiet 29 rfl rfl rfl Try.eqGuardType29 Try.underlying29 (by simp [go_sem]) (by simp [go_sem]) (by with_reducible assumption)))
               | (apply head_step_g rfl
                  focus
                    intro w0 hC
                    have hC' := Lib.hid hC
                    obtain ⟨⟨r1, f1, i1, b1, l1⟩, ⟨r2, f2, i2, b2, l2⟩, ⟨r3, f3, i3, b3, l3⟩, ⟨r4, f4, i4, b4, l4⟩, ⟨r5, f5, i5, b5, l5⟩, m12, m21, m13, m31, m14, m41, m15, m51, m23, m32, m24, m42, m25, m52, m34, m43, m35, m53, m45, m54⟩ := St.facts5 hC
                    clear hC
                    go_simp
                    have hC := hC'.out
                    (first
                       | with_reducible rfl
                       | ((first
                           | (go_at_call 15; refine (Pur.down (box_pur _) _).mono ?_)
                           | (go_at_call 19; refine (Pur.down (unbox_pur _) _).mono ?_)
                           | (go_at_call 8; refine (Pur.down (mul_pur _ _) _).mono ?_)
                           | (go_at_call 17; refine (mix_any _ _).mono ?_)
                           | (go_at_call 20; refine (unmix_any _ _).mono ?_))
                          rintro e w' ⟨rfl, hw⟩
                          exact ⟨rfl, St.call (by assumption) hw⟩)))
             try simp only [Act.put, List.setIfInBounds_toArray, List.set])
            (first
               | (apply head_skip rfl)
               | (apply head_step_g rfl
                  focus
                    intro w0 hC
                    (exact neq_quiet 29 rfl rfl rfl Try.eqGuardType29 Try.underlying29 (by simp [go_sem]) (by simp [go_sem]) (by with_reducible assumption)))
               | (apply head_step_g rfl
                  focus
                    intro w0 hC
                    have hC' := Lib.hid hC
                    obtain ⟨⟨r1, f1, i1, b1, l1⟩, ⟨r2, f2, i2, b2, l2⟩, ⟨r3, f3, i3, b3, l3⟩, ⟨r4, f4, i4, b4, l4⟩, ⟨r5, f5, i5, b5, l5⟩, m12, m21, m13, m31, m14, m41, m15, m51, m23, m32, m24, m42, m25, m52, m34, m43, m35, m53, m45, m54⟩ := St.facts5 hC
                    clear hC
                    go_simp
                    have hC := hC'.out
                    (first
                       | with_reducible rfl
                       | ((first
                           | (go_at_call 15; refine (Pur.down (box_pur _) _).mono ?_)
                           | (go_at_call 19; refine (Pur.down (unbox_pur _) _).mono ?_)
                           | (go_at_call 8; refine (Pur.down (mul_pur _ _) _).mono ?_)
                           | (go_at_call 17; refine (mix_any _ _).mono ?_)
                           | (go_at_call 20; refine (unmix_any _ _).mono ?_))
                          rintro e w' ⟨rfl, hw⟩
                          exact ⟨rfl, St.call (by assumption) hw⟩)))
             try simp only [Act.put, List.setIfInBounds_toArray, List.set])
            (first
               | (apply head_skip rfl)
               | (apply head_step_g rfl
                  focus
                    intro w0 hC
                    (exact neq_quiet 29 rfl rfl rfl Try.eqGuardType29 Try.underlying29 (by simp [go_sem]) (by simp [go_sem]) (by with_reducible assumption)))
               | (apply head_step_g rfl
                  focus
                    intro w0 hC
                    have hC' := Lib.hid hC
                    obtain ⟨⟨r1, f1, i1, b1, l1⟩, ⟨r2, f2, i2, b2, l2⟩, ⟨r3, f3, i3, b3, l3⟩, ⟨r4, f4, i4, b4, l4⟩, ⟨r5, f5, i5, b5, l5⟩, m12, m21, m13, m31, m14, m41, m15, m51, m23, m32, m24, m42, m25, m52, m34, m43, m35, m53, m45, m54⟩ := St.facts5 hC
                    clear hC
                    go_simp
                    have hC := hC'.out
                    (first
                       | with_reducible rfl
                       | ((first
                           | (go_at_call 15; refine (Pur.down (box_pur _) _).mono ?_)
                           | (go_at_call 19; refine (Pur.down (unbox_pur _) _).mono ?_)
                           | (go_at_call 8; refine (Pur.down (mul_pur _ _) _).mono ?_)
                           | (go_at_call 17; refine (mix_any _ _).mono ?_)
                           | (go_at_call 20; refine (unmix_any _ _).mono ?_))
                          rintro e w' ⟨rfl, hw⟩
                          exact ⟨rfl, St.call (by assumption) hw⟩)))
             try simp only [Act.put, List.setIfInBounds_toArray, List.set])
            (first
               | (apply head_skip rfl)
               | (apply head_step_g rfl
                  focus
                    intro w0 hC
                    (exact neq_quiet 29 rfl rfl rfl Try.eqGuardType29 Try.underlying29 (by simp [go_sem]) (by simp [go_sem]) (by with_reducible assumption)))
               | (apply head_step_g rfl
                  focus
                    intro w0 hC
                    have hC' := Lib.hid hC
                    obtain ⟨⟨r1, f1, i1, b1, l1⟩, ⟨r2, f2, i2, b2, l2⟩, ⟨r3, f3, i3, b3, l3⟩, ⟨r4, f4, i4, b4, l4⟩, ⟨r5, f5, i5, b5, l5⟩, m12, m21, m13, m31, m14, m41, m15, m51, m23, m32, m24, m42, m25, m52, m34, m43, m35, m53, m45, m54⟩ := St.facts5 hC
                    clear hC
                    go_simp
                    have hC := hC'.out
                    (first
                       | with_reducible rfl
                       | ((first
                           | (go_at_call 15; refine (Pur.down (box_pur _) _).mono ?_)
                           | (go_at_call 19; refine (Pur.down (unbox_pur _) _).mono ?_)
                           | (go_at_call 8; refine (Pur.down (mul_pur _ _) _).mono ?_)
                           | (go_at_call 17; refine (mix_any _ _).mono ?_)
                           | (go_at_call 20; refine (unmix_any _ _).mono ?_))
                          rintro e w' ⟨rfl, hw⟩
                          exact ⟨rfl, St.call (by assumption) hw⟩)))
             try simp only [Act.put, List.setIfInBounds_toArray, List.set])
            (first
               | (apply head_skip rfl)
               | (apply head_step_g rfl
                  focus
                    intro w0 hC
                    (exact neq_quiet 29 rfl rfl rfl Try.eqGuardType29 Try.underlying29 (by simp [go_sem]) (by simp [go_sem]) (by with_reducible assumption)))
               | (apply head_step_g rfl
                  focus
                    intro w0 hC
                    have hC' := Lib.hid hC
                    obtain ⟨⟨r1, f1, i1, b1, l1⟩, ⟨r2, f2, i2, b2, l2⟩, ⟨r3, f3, i3, b3, l3⟩, ⟨r4, f4, i4, b4, l4⟩, ⟨r5, f5, i5, b5, l5⟩, m12, m21, m13, m31, m14, m41, m15, m51, m23, m32, m24, m42, m25, m52, m34, m43, m35, m53, m45, m54⟩ := St.facts5 hC
                    clear hC
                    go_simp
                    have hC := hC'.out
                    (first
                       | with_reducible rfl
                       | ((first
                           | (go_at_call 15; refine (Pur.down (box_pur _) _).mono ?_)
                           | (go_at_call 19; refine (Pur.down (unbox_pur _) _).mono ?_)
                           | (go_at_call 8; refine (Pur.down (mul_pur _ _) _).mono ?_)
                           | (go_at_call 17; refine (mix_any _ _).mono ?_)
                           | (go_at_call 20; refine (unmix_any _ _).mono ?_))
                          rintro e w' ⟨rfl, hw⟩
                          exact ⟨rfl, St.call (by assumption) hw⟩)))
             try simp only [Act.put, List.setIfInBounds_toArray, List.set])
            (first
               | (apply head_skip rfl)
               | (apply head_step_g rfl
                  focus
                    intro w0 hC
                    (exact neq_quiet 29 rfl rfl rfl Try.eqGuardType29 Try.underlying29 (by simp [go_sem]) (by simp [go_sem]) (by with_reducible assumption)))
               | (apply head_step_g rfl
                  focus
                    intro w0 hC
                    have hC' := Lib.hid hC
                    obtain ⟨⟨r1, f1, i1, b1, l1⟩, ⟨r2, f2, i2, b2, l2⟩, ⟨r3, f3, i3, b3, l3⟩, ⟨r4, f4, i4, b4, l4⟩, ⟨r5, f5, i5, b5, l5⟩, m12, m21, m13, m31, m14, m41, m15, m51, m23, m32, m24, m42, m25, m52, m34, m43, m35, m53, m45, m54⟩ := St.facts5 hC
                    clear hC
                    go_simp
                    have hC := hC'.out
                    (first
                       | with_reducible rfl
                       | ((first
                           | (go_at_call 15; refine (Pur.down (box_pur _) _).mono ?_)
                           | (go_at_call 19; refine (Pur.down (unbox_pur _) _).mono ?_)
                           | (go_at_call 8; refine (Pur.down (mul_pur _ _) _).mono ?_)
                           | (go_at_call 17; refine (mix_any _ _).mono ?_)
                           | (go_at_call 20; refine (unmix_any _ _).mono ?_))
                          rintro e w' ⟨rfl, hw⟩
                          exact ⟨rfl, St.call (by assumption) hw⟩)))
             try simp only [Act.put, List.setIfInBounds_toArray, List.set])
            (first
               | (apply head_skip rfl)
               | (apply head_step_g rfl
                  focus
                    intro w0 hC
                    (exact neq_quiet 29 rfl rfl rfl Try.eqGuardType29 Try.underlying29 (by simp [go_sem]) (by simp [go_sem]) (by with_reducible assumption)))
               | (apply head_step_g rfl
                  focus
                    intro w0 hC
                    have hC' := Lib.hid hC
                    obtain ⟨⟨r1, f1, i1, b1, l1⟩, ⟨r2, f2, i2, b2, l2⟩, ⟨r3, f3, i3, b3, l3⟩, ⟨r4, f4, i4, b4, l4⟩, ⟨r5, f5, i5, b5, l5⟩, m12, m21, m13, m31, m14, m41, m15, m51, m23, m32, m24, m42, m25, m52, m34, m43, m35, m53, m45, m54⟩ := St.facts5 hC
                    clear hC
                    go_simp
                    have hC := hC'.out
                    (first
                       | with_reducible rfl
                       | ((first
                           | (go_at_call 15; refine (Pur.down (box_pur _) _).mono ?_)
                           | (go_at_call 19; refine (Pur.down (unbox_pur _) _).mono ?_)
                           | (go_at_call 8; refine (Pur.down (mul_pur _ _) _).mono ?_)
                           | (go_at_call 17; refine (mix_any _ _).mono ?_)
                           | (go_at_call 20; refine (unmix_any _ _).mono ?_))
                          rintro e w' ⟨rfl, hw⟩
                          exact ⟨rfl, St.call (by assumption) hw⟩)))
             try simp only [Act.put, List.setIfInBounds_toArray, List.set])
            (first
               | (apply head_skip rfl)
               | (apply head_step_g rfl
                  focus
                    intro w0 hC
                    (exact neq_quiet 29 rfl rfl rfl Try.eqGuardType29 Try.underlying29 (by simp [go_sem]) (by simp [go_sem]) (by with_reducible assumption)))
               | (apply head_step_g rfl
                  focus
                    intro w0 hC
                    have hC' := Lib.hid hC
                    obtain ⟨⟨r1, f1, i1, b1, l1⟩, ⟨r2, f2, i2, b2, l2⟩, ⟨r3, f3, i3, b3, l3⟩, ⟨r4, f4, i4, b4, l4⟩, ⟨r5, f5, i5, b5, l5⟩, m12, m21, m13, m31, m14, m41, m15, m51, m23, m32, m24, m42, m25, m52, m34, m43, m35, m53, m45, m54⟩ := St.facts5 hC
                    clear hC
                    go_simp
                    have hC := hC'.out
                    (first
                       | with_reducible rfl
                       | ((first
                           | (go_at_call 15; refine (Pur.down (box_pur _) _).mono ?_)
                           | (go_at_call 19; refine (Pur.down (unbox_pur _) _).mono ?_)
                           | (go_at_call 8; refine (Pur.down (mul_pur _ _) _).mono ?_)
                           | (go_at_call 17; refine (mix_any _ _).mono ?_)
                           | (go_at_call 20; refine (unmix_any _ _).mono ?_))
                          rintro e w' ⟨rfl, hw⟩
                          exact ⟨rfl, St.call (by assumption) hw⟩)))
             try simp only [Act.put, List.setIfInBounds_toArray, List.set])
            (first
               | (apply head_skip rfl)
               | (apply head_step_g rfl
                  focus
                    intro w0 hC
                    (exact neq_quiet 29 rfl rfl rfl Try.eqGuardType29 Try.underlying29 (by simp [go_sem]) (by simp [go_sem]) (by with_reducible assumption)))
               | (apply head_step_g rfl
                  focus
                    intro w0 hC
                    have hC' := Lib.hid hC
                    obtain ⟨⟨r1, f1, i1, b1, l1⟩, ⟨r2, f2, i2, b2, l2⟩, ⟨r3, f3, i3, b3, l3⟩, ⟨r4, f4, i4, b4, l4⟩, ⟨r5, f5, i5, b5, l5⟩, m12, m21, m13, m31, m14, m41, m15, m51, m23, m32, m24, m42, m25, m52, m34, m43, m35, m53, m45, m54⟩ := St.facts5 hC
                    clear hC
                    go_simp
                    have hC := hC'.out
                    (first
                       | with_reducible rfl
                       | ((first
                           | (go_at_call 15; refine (Pur.down (box_pur _) _).mono ?_)
                           | (go_at_call 19; refine (Pur.down (unbox_pur _) _).mono ?_)
                           | (go_at_call 8; refine (Pur.down (mul_pur _ _) _).mono ?_)
                           | (go_at_call 17; refine (mix_any _ _).mono ?_)
                           | (go_at_call 20; refine (unmix_any _ _).mono ?_))
                          rintro e w' ⟨rfl, hw⟩
                          exact ⟨rfl, St.call (by assumption) hw⟩)))
             try simp only [Act.put, List.setIfInBounds_toArray, List.set])
            (first
               | (apply head_skip rfl)
               | (apply head_step_g rfl
                  focus
                    intro w0 hC
                    (exact neq_quiet 29 rfl rfl rfl Try.eqGuardType29 Try.underlying29 (by simp [go_sem]) (by simp [go_sem]) (by with_reducible assumption)))
               | (apply head_step_g rfl
                  focus
                    intro w0 hC
                    have hC' := Lib.hid hC
                    obtain ⟨⟨r1, f1, i1, b1, l1⟩, ⟨r2, f2, i2, b2, l2⟩, ⟨r3, f3, i3, b3, l3⟩, ⟨r4, f4, i4, b4, l4⟩, ⟨r5, f5, i5, b5, l5⟩, m12, m21, m13, m31, m14, m41, m15, m51, m23, m32, m24, m42, m25, m52, m34, m43, m35, m53, m45, m54⟩ := St.facts5 hC
                    clear hC
                    go_simp
                    have hC := hC'.out
                    (first
                       | with_reducible rfl
                       | ((first
                           | (go_at_call 15; refine (Pur.down (box_pur _) _).mono ?_)
                           | (go_at_call 19; refine (Pur.down (unbox_pur _) _).mono ?_)
                           | (go_at_call 8; refine (Pur.down (mul_pur _ _) _).mono ?_)
                           | (go_at_call 17; refine (mix_any _ _).mono ?_)
                           | (go_at_call 20; refine (unmix_any _ _).mono ?_))
                          rintro e w' ⟨rfl, hw⟩
                          exact ⟨rfl, St.call (by assumption) hw⟩)))
             try simp only [Act.put, List.setIfInBounds_toArray, List.set])
            (first
               | (apply head_skip rfl)
               | (apply head_step_g rfl
                  focus
                    intro w0 hC
                    (exact neq_quiet 29 rfl rfl rfl Try.eqGuardType29 Try.underlying29 (by simp [go_sem]) (by simp [go_sem]) (by with_reducible assumption)))
               | (apply head_step_g rfl
                  focus
                    intro w0 hC
                    have hC' := Lib.hid hC
                    obtain ⟨⟨r1, f1, i1, b1, l1⟩, ⟨r2, f2, i2, b2, l2⟩, ⟨r3, f3, i3, b3, l3⟩, ⟨r4, f4, i4, b4, l4⟩, ⟨r5, f5, i5, b5, l5⟩, m12, m21, m13, m31, m14, m41, m15, m51, m23, m32, m24, m42, m25, m52, m34, m43, m35, m53, m45, m54⟩ := St.facts5 hC
                    clear hC
                    go_simp
                    have hC := hC'.out
                    (first
                       | with_reducible rfl
                       | ((first
                           | (go_at_call 15; refine (Pur.down (box_pur _) _).mono ?_)
                           | (go_at_call 19; refine (Pur.down (unbox_pur _) _).mono ?_)
                           | (go_at_call 8; refine (Pur.down (mul_pur _ _) _).mono ?_)
                           | (go_at_call 17; refine (mix_any _ _).mono ?_)
                           | (go_at_call 20; refine (unmix_any _ _).mono ?_))
                          rintro e w' ⟨rfl, hw⟩
                          exact ⟨rfl, St.call (by assumption) hw⟩)))
             try simp only [Act.put, List.setIfInBounds_toArray, List.set])
            (first
               | (apply head_skip rfl)
               | (apply head_step_g rfl
                  focus
                    intro w0 hC
                    (exact neq_quiet 29 rfl rfl rfl Try.eqGuardType29 Try.underlying29 (by simp [go_sem]) (by simp [go_sem]) (by with_reducible assumption)))
               | (apply head_step_g rfl
                  focus
                    intro w0 hC
                    have hC' := Lib.hid hC
                    obtain ⟨⟨r1, f1, i1, b1, l1⟩, ⟨r2, f2, i2, b2, l2⟩, ⟨r3, f3, i3, b3, l3⟩, ⟨r4, f4, i4, b4, l4⟩, ⟨r5, f5, i5, b5, l5⟩, m12, m21, m13, m31, m14, m41, m15, m51, m23, m32, m24, m42, m25, m52, m34, m43, m35, m53, m45, m54⟩ := St.facts5 hC
                    clear hC
                    go_simp
                    have hC := hC'.out
                    (first
                       | with_reducible rfl
                       | ((first
                           | (go_at_call 15; refine (Pur.down (box_pur _) _).mono ?_)
                           | (go_at_call 19; refine (Pur.down (unbox_pur _) _).mono ?_)
                           | (go_at_call 8; refine (Pur.down (mul_pur _ _) _).mono ?_)
                           | (go_at_call 17; refine (mix_any _ _).mono ?_)
                           | (go_at_call 20; refine (unmix_any _ _).mono ?_))
                          rintro e w' ⟨rfl, hw⟩
                          exact ⟨rfl, St.call (by assumption) hw⟩)))
             try simp only [Act.put, List.setIfInBounds_toArray, List.set])
            (first
               | (apply head_skip rfl)
               | (apply head_step_g rfl
                  focus
                    intro w0 hC
                    (exact neq_quiet 29 rfl rfl rfl Try.eqGuardType29 Try.underlying29 (by simp [go_sem]) (by simp [go_sem]) (by with_reducible assumption)))
               | (apply head_step_g rfl
                  focus
                    intro w0 hC
                    have hC' := Lib.hid hC
                    obtain ⟨⟨r1, f1, i1, b1, l1⟩, ⟨r2, f2, i2, b2, l2⟩, ⟨r3, f3, i3, b3, l3⟩, ⟨r4, f4, i4, b4, l4⟩, ⟨r5, f5, i5, b5, l5⟩, m12, m21, m13, m31, m14, m41, m15, m51, m23, m32, m24, m42, m25, m52, m34, m43, m35, m53, m45, m54⟩ := St.facts5 hC
                    clear hC
                    go_simp
                    have hC := hC'.out
                    (first
                       | with_reducible rfl
                       | ((first
                           | (go_at_call 15; refine (Pur.down (box_pur _) _).mono ?_)
                           | (go_at_call 19; refine (Pur.down (unbox_pur _) _).mono ?_)
                           | (go_at_call 8; refine (Pur.down (mul_pur _ _) _).mono ?_)
                           | (go_at_call 17; refine (mix_any _ _).mono ?_)
                           | (go_at_call 20; refine (unmix_any _ _).mono ?_))
                          rintro e w' ⟨rfl, hw⟩
                          exact ⟨rfl, St.call (by assumption) hw⟩)))
             try simp only [Act.put, List.setIfInBounds_toArray, List.set])
            (first
               | (apply head_skip rfl)
               | (apply head_step_g rfl
                  focus
                    intro w0 hC
                    (exact neq_quiet 29 rfl rfl rfl Try.eqGuardType29 Try.underlying29 (by simp [go_sem]) (by simp [go_sem]) (by with_reducible assumption)))
               | (apply head_step_g rfl
                  focus
                    intro w0 hC
                    have hC' := Lib.hid hC
                    obtain ⟨⟨r1, f1, i1, b1, l1⟩, ⟨r2, f2, i2, b2, l2⟩, ⟨r3, f3, i3, b3, l3⟩, ⟨r4, f4, i4, b4, l4⟩, ⟨r5, f5, i5, b5, l5⟩, m12, m21, m13, m31, m14, m41, m15, m51, m23, m32, m24, m42, m25, m52, m34, m43, m35, m53, m45, m54⟩ := St.facts5 hC
                    clear hC
                    go_simp
                    have hC := hC'.out
                    (first
                       | with_reducible rfl
                       | ((first
                           | (go_at_call 15; refine (Pur.down (box_pur _) _).mono ?_)
                           | (go_at_call 19; refine (Pur.down (unbox_pur _) _).mono ?_)
                           | (go_at_call 8; refine (Pur.down (mul_pur _ _) _).mono ?_)
                           | (go_at_call 17; refine (mix_any _ _).mono ?_)
                           | (go_at_call 20; refine (unmix_any _ _).mono ?_))
                          rintro e w' ⟨rfl, hw⟩
                          exact ⟨rfl, St.call (by assumption) hw⟩)))
             try simp only [Act.put, List.setIfInBounds_toArray, List.set])
            (first
               | (apply head_skip rfl)
               | (apply head_step_g rfl
                  focus
                    intro w0 hC
                    (exact neq_quiet 29 rfl rfl rfl Try.eqGuardType29 Try.underlying29 (by simp [go_sem]) (by simp [go_sem]) (by with_reducible assumption)))
               | (apply head_step_g rfl
                  focus
                    intro w0 hC
                    have hC' := Lib.hid hC
                    obtain ⟨⟨r1, f1, i1, b1, l1⟩, ⟨r2, f2, i2, b2, l2⟩, ⟨r3, f3, i3, b3, l3⟩, ⟨r4, f4, i4, b4, l4⟩, ⟨r5, f5, i5, b5, l5⟩, m12, m21, m13, m31, m14, m41, m15, m51, m23, m32, m24, m42, m25, m52, m34, m43, m35, m53, m45, m54⟩ := St.facts5 hC
                    clear hC
                    go_simp
                    have hC := hC'.out
                    (first
                       | with_reducible rfl
                       | ((first
                           | (go_at_call 15; refine (Pur.down (box_pur _) _).mono ?_)
                           | (go_at_call 19; refine (Pur.down (unbox_pur _) _).mono ?_)
                           | (go_at_call 8; refine (Pur.down (mul_pur _ _) _).mono ?_)
                           | (go_at_call 17; refine (mix_any _ _).mono ?_)
                           | (go_at_call 20; refine (unmix_any _ _).mono ?_))
                          rintro e w' ⟨rfl, hw⟩
                          exact ⟨rfl, St.call (by assumption) hw⟩)))
             try simp only [Act.put, List.setIfInBounds_toArray, List.set])
            (first
               | (apply head_skip rfl)
               | (apply head_step_g rfl
                  focus
                    intro w0 hC
                    (exact neq_quiet 29 rfl rfl rfl Try.eqGuardType29 Try.underlying29 (by simp [go_sem]) (by simp [go_sem]) (by with_reducible assumption)))
               | (apply head_step_g rfl
                  focus
                    intro w0 hC
                    have hC' := Lib.hid hC
                    obtain ⟨⟨r1, f1, i1, b1, l1⟩, ⟨r2, f2, i2, b2, l2⟩, ⟨r3, f3, i3, b3, l3⟩, ⟨r4, f4, i4, b4, l4⟩, ⟨r5, f5, i5, b5, l5⟩, m12, m21, m13, m31, m14, m41, m15, m51, m23, m32, m24, m42, m25, m52, m34, m43, m35, m53, m45, m54⟩ := St.facts5 hC
                    clear hC
                    go_simp
                    have hC := hC'.out
                    (first
                       | with_reducible rfl
                       | ((first
                           | (go_at_call 15; refine (Pur.down (box_pur _) _).mono ?_)
                           | (go_at_call 19; refine (Pur.down (unbox_pur _) _).mono ?_)
                           | (go_at_call 8; refine (Pur.down (mul_pur _ _) _).mono ?_)
                           | (go_at_call 17; refine (mix_any _ _).mono ?_)
                           | (go_at_call 20; refine (unmix_any _ _).mono ?_))
                          rintro e w' ⟨rfl, hw⟩
                          exact ⟨rfl, St.call (by assumption) hw⟩)))
             try simp only [Act.put, List.setIfInBounds_toArray, List.set])
            (first
               | (apply head_skip rfl)
               | (apply head_step_g rfl
                  focus
                    intro w0 hC
                    (exact neq_quiet 29 rfl rfl rfl Try.eqGuardType29 Try.underlying29 (by simp [go_sem]) (by simp [go_sem]) (by with_reducible assumption)))
               | (apply head_step_g rfl
                  focus
                    intro w0 hC
                    have hC' := Lib.hid hC
                    obtain ⟨⟨r1, f1, i1, b1, l1⟩, ⟨r2, f2, i2, b2, l2⟩, ⟨r3, f3, i3, b3, l3⟩, ⟨r4, f4, i4, b4, l4⟩, ⟨r5, f5, i5, b5, l5⟩, m12, m21, m13, m31, m14, m41, m15, m51, m23, m32, m24, m42, m25, m52, m34, m43, m35, m53, m45, m54⟩ := St.facts5 hC
                    clear hC
                    go_simp
                    have hC := hC'.out
                    (first
                       | with_reducible rfl
                       | ((first
                           | (go_at_call 15; refine (Pur.down (box_pur _) _).mono ?_)
                           | (go_at_call 19; refine (Pur.down (unbox_pur _) _).mono ?_)
                           | (go_at_call 8; refine (Pur.down (mul_pur _ _) _).mono ?_)
                           | (go_at_call 17; refine (mix_any _ _).mono ?_)
                           | (go_at_call 20; refine (unmix_any _ _).mono ?_))
                          rintro e w' ⟨rfl, hw⟩
                          exact ⟨rfl, St.call (by assumption) hw⟩)))
             try simp only [Act.put, List.setIfInBounds_toArray, List.set])
            (first
               | (apply head_skip rfl)
               | (apply head_step_g rfl
                  focus
                    intro w0 hC
                    (exact neq_quiet 29 rfl rfl rfl Try.eqGuardType29 Try.underlying29 (by simp [go_sem]) (by simp [go_sem]) (by with_reducible assumption)))
               | (apply head_step_g rfl
                  focus
                    intro w0 hC
                    have hC' := Lib.hid hC
                    obtain ⟨⟨r1, f1, i1, b1, l1⟩, ⟨r2, f2, i2, b2, l2⟩, ⟨r3, f3, i3, b3, l3⟩, ⟨r4, f4, i4, b4, l4⟩, ⟨r5, f5, i5, b5, l5⟩, m12, m21, m13, m31, m14, m41, m15, m51, m23, m32, m24, m42, m25, m52, m34, m43, m35, m53, m45, m54⟩ := St.facts5 hC
                    clear hC
                    go_simp
                    have hC := hC'.out
                    (first
                       | with_reducible rfl
                       | ((first
                           | (go_at_call 15; refine (Pur.down (box_pur _) _).mono ?_)
                           | (go_at_call 19; refine (Pur.down (unbox_pur _) _).mono ?_)
                           | (go_at_call 8; refine (Pur.down (mul_pur _ _) _).mono ?_)
                           | (go_at_call 17; refine (mix_any _ _).mono ?_)
                           | (go_at_call 20; refine (unmix_any _ _).mono ?_))
                          rintro e w' ⟨rfl, hw⟩
                          exact ⟨rfl, St.call (by assumption) hw⟩)))
             try simp only [Act.put, List.setIfInBounds_toArray, List.set])
            (first
               | (apply head_skip rfl)
               | (apply head_step_g rfl
                  focus
                    intro w0 hC
                    (exact neq_quiet 29 rfl rfl rfl Try.eqGuardType29 Try.underlying29 (by simp [go_sem]) (by simp [go_sem]) (by with_reducible assumption)))
               | (apply head_step_g rfl
                  focus
                    intro w0 hC
                    have hC' := Lib.hid hC
                    obtain ⟨⟨r1, f1, i1, b1, l1⟩, ⟨r2, f2, i2, b2, l2⟩, ⟨r3, f3, i3, b3, l3⟩, ⟨r4, f4, i4, b4, l4⟩, ⟨r5, f5, i5, b5, l5⟩, m12, m21, m13, m31, m14, m41, m15, m51, m23, m32, m24, m42, m25, m52, m34, m43, m35, m53, m45, m54⟩ := St.facts5 hC
                    clear hC
                    go_simp
                    have hC := hC'.out
                    (first
                       | with_reducible rfl
                       | ((first
                           | (go_at_call 15; refine (Pur.down (box_pur _) _).mono ?_)
                           | (go_at_call 19; refine (Pur.down (unbox_pur _) _).mono ?_)
                           | (go_at_call 8; refine (Pur.down (mul_pur _ _) _).mono ?_)
                           | (go_at_call 17; refine (mix_any _ _).mono ?_)
                           | (go_at_call 20; refine (unmix_any _ _).mono ?_))
                          rintro e w' ⟨rfl, hw⟩
                          exact ⟨rfl, St.call (by assumption) hw⟩)))
             try simp only [Act.put, List.setIfInBounds_toArray, List.set])
            refine wpQuiet_nil ?_
            intro w7 hC
            have HC := Lib.hid hC
            have sos := hC.below.os
            clear e1 e2 hC
            go_wp2_with fail
            exact ⟨⟨k + 1, by omega, by go_num, HC⟩, by simp [intOf]; omega⟩
          · obtain rfl : k = 4 := by omega
            have sos := HR.out.os
            go_wp2_with fail
            refine (awake_any _).mono ?_; rintro e w8 ⟨rfl, hw⟩
            have HC := Lib.hid (HR.out.call hw)
            clear hw
            go_wp2_with fail
            go_ret
            exact ⟨rfl, HC.out.below⟩
end Go.Proofs.Ytmkaemnjfaofdaa
