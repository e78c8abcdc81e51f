/- The functions of the program's package gf, and of the reference's, return what the plain functions reckon. No condition on bytes. * Powers, inverses, turned bytes and the box, as the program's package gf and the reference reckon them. Powers of fewer than 2^40 factors; no other condition. * The reference's powers, inverses, turned bytes and box return what the plain functions reckon. No condition on bytes. * The program's columns, mixed and unmixed, and the reference's, return what the plain functions reckon; the call's own memory apart nothing turns. No condition on bytes. * Mixed and unmixed columns, of the program and of the reference, are what the plain functions reckon. No condition on bytes. * The reference's mixed column is what the plain function reckons. No condition on bytes. * The cipher in plain Lean: blocks as functions of the place, rounds, what is put in secret and told again. No program stands in this text; no condition. * The small functions of the program's package cipher return what the plain functions reckon; the call's own memory apart nothing turns. No condition on bytes. * Columns of blocks, mixed and told out, of the program's package cipher. No condition on bytes. * The program's round behind a round. No condition on bytes. * All rounds of a key, as the program tells them. No condition on bytes. * A block in secret, as the program puts it. No condition on bytes. * A block told again, and a text as a block, as the program does it. No condition on bytes. * A text as a block, as the program tells it. No condition on bytes. -/
import Derived.Test.YtgaecjhghpkcoaaRows
import Derived.Test.YtgaecjhghpkcoaaMGround
import Derived.Deep.RegionHeld3
import Derived.KernelRfl
section
namespace Go.Proofs.Ytgaecjhghpkcoaa
open Go.RowKit
attribute [local go_sem] B_xor B_or B_and

theorem dbl_walk (a : UInt8) : bits BinOp.xor IntKind.u8 (B a * 2 % 256) (bits BinOp.and IntKind.u8 27 (-(B a / 128) % 256)) = B (Gf.dbl a) := by
  revert a; apply Gf.all256; decide +kernel

theorem mask_walk (b : UInt8) (i : Nat) (hi : i < 8) : (-bits BinOp.and IntKind.u8 (B b / 2 ^ i) 1 % 256 : Int) = B (Gf.mask b i) := by
  have h : ∀ n < 256, ∀ i < 8, (-bits BinOp.and IntKind.u8 (B (UInt8.ofNat n) / 2 ^ i) 1 % 256 : Int) = B (Gf.mask (UInt8.ofNat n) i) := by decide +kernel
  have := h b.toNat b.toNat_lt i hi
  simpa using this
theorem mulStep_walk (a b o : UInt8) (k : Nat) (hk : k < 8) :
    bits BinOp.xor IntKind.u8 (B (Gf.dbl o)) (bits BinOp.and IntKind.u8 (B a) (-bits BinOp.and IntKind.u8 (B b / 2 ^ (7 - k)) 1 % 256)) = B (Gf.mulStep a b (7 - k) o) := by
  rw [mask_walk b (7 - k) (by omega), B_and, B_xor]; rfl

/-- a number behind k halvings, behind a name of its own -/
def halved (n k : Nat) : Nat := n / 2 ^ k
theorem halved_zero (n : Nat) : halved n 0 = n := by simp [halved]
theorem halved_succ (n k : Nat) : halved n (k + 1) = halved n k / 2 := by simp [halved, Nat.div_div_eq_div_mul, Nat.pow_succ]
theorem halved_le (n k : Nat) : halved n k ≤ n := Nat.div_le_self _ _

theorem refTo_one (a b : UInt8) (k : Nat) (h : halved b.toNat k % 2 = 1) : Gf.refTo a b (k + 1) = Gf.refTo a b k ^^^ Gf.xt a k := by
  unfold halved at h; simp only [Gf.refTo]; rw [if_pos h]
theorem refTo_no (a b : UInt8) (k : Nat) (h : ¬ halved b.toNat k % 2 = 1) : Gf.refTo a b (k + 1) = Gf.refTo a b k := by
  unfold halved at h; simp only [Gf.refTo]; rw [if_neg h]; simp
theorem xor_walk64 (x y : UInt8) : bits BinOp.xor IntKind.i64 (B x) (B y) = B (x ^^^ y) := by
  have h : ∀ n < 256, ∀ m < 256, n ^^^ m < 256 := by
    intro n hn m hm; exact Nat.xor_lt_two_pow (n := 8) hn hm
  have hx := x.toNat_lt
  have hy := y.toNat_lt
  have hxy := h _ hx _ hy
  unfold B
  show IntKind.i64.wrap ((BitVec.ofInt 64 (x.toNat : Int) ^^^ BitVec.ofInt 64 (y.toNat : Int)).toNat : Int) = _
  have e : ∀ a : Nat, a < 256 → (BitVec.ofInt 64 (a : Int)).toNat = a := fun a ha => by
    rw [BitVec.ofInt_natCast, BitVec.toNat_ofNat]; exact Nat.mod_eq_of_lt (by omega)
  rw [BitVec.toNat_xor, e _ hx, e _ hy, UInt8.toNat_xor]
  exact IntWalk.i64_in _ (by omega)
theorem dbl_low (x : UInt8) (h : 2 * B x ≤ 255) : 2 * B x = B (Gf.dbl x) := by
  have : ∀ n < 256, 2 * B (UInt8.ofNat n) ≤ 255 → 2 * B (UInt8.ofNat n) = B (Gf.dbl (UInt8.ofNat n)) := by decide +kernel
  have := this x.toNat x.toNat_lt
  simp only [UInt8.ofNat_toNat] at this
  exact this h
theorem dbl_high (x : UInt8) (h : 255 < 2 * B x) : bits BinOp.xor IntKind.i64 (2 * B x) 283 = B (Gf.dbl x) := by
  have : ∀ n < 256, 255 < 2 * B (UInt8.ofNat n) → bits BinOp.xor IntKind.i64 (2 * B (UInt8.ofNat n)) 283 = B (Gf.dbl (UInt8.ofNat n)) := by decide +kernel
  have := this x.toNat x.toNat_lt
  simp only [UInt8.ofNat_toNat] at this
  exact this h

set_option maxHeartbeats 1000000 in
theorem refMul_same (a b : UInt8) (w : World) :
    Calls Try.prog 70 #[.int .u8 (B a), .int .u8 (B b)] w fun e w' => e = .returned (.int .u8 (B (Gf.mul a b))) ∧ w' = w := by
  obtain ⟨a0, a1⟩ := B_bd a
  obtain ⟨b0, b1⟩ := B_bd b
  go_enter Try.func70, Try.ntmps70
  go_wp2_with fail
  go_loop [5, 6, 7, 8] (fun n x l i => ∃ k : Nat, k ≤ 8 ∧ i = .int .i64 (k : Int) ∧ n = .int .i64 (B (Gf.refTo a b k)) ∧ x = .int .i64 (B (Gf.xt a k)) ∧ l = .int .i64 ((halved b.toNat k : Nat) : Int)) (fun _ _ _ i => (8 - intOf i).toNat)
  case atStart => exact ⟨0, by omega, rfl, rfl, rfl, by rw [halved_zero]; rfl⟩
  case round =>
    obtain ⟨k, hk, rfl, rfl, rfl, rfl⟩ := hrel
    by_cases hlt : k < 8
    · obtain ⟨x0, x1⟩ := B_bd (Gf.xt a k)
      have hs := halved_succ b.toNat k
      have HS := Lib.hid hs; clear hs
      have hq : halved b.toNat k ≤ 255 := Nat.le_trans (halved_le _ _) (by have := b.toNat_lt; omega)
      by_cases hb : halved b.toNat k % 2 = 1
      all_goals
        have HB : Hid _ := Lib.hid hb
        by_cases ht : 255 < 2 * B (Gf.xt a k)
        all_goals
          go_wp2_with fail
          go_round
          case rel =>
            refine ⟨k + 1, by omega, by go_num, ?_, ?_, ?_⟩
            · first | (rw [refTo_one _ _ _ HB.out, xor_walk64]) | (rw [refTo_no _ _ _ HB.out])
            · simp only [Gf.xt]
              first | (rw [dbl_high _ (by omega)]) | (rw [dbl_low _ (by omega)])
            · rw [HS.out]; rfl
          case measure => simp [intOf]; omega
    · obtain ⟨r0, r1⟩ := B_bd (Gf.refTo a b k)
      go_wp2_with fail
      go_ret
      obtain rfl : k = 8 := by omega
      rw [← Gf.refTo_mul]
      exact ⟨rfl, rfl⟩

end Go.Proofs.Ytgaecjhghpkcoaa
end

section
namespace Go.Proofs.Ytgaecjhghpkcoaa
open Go.RowKit
attribute [local go_sem] B_xor B_or B_and

theorem refMul_pur (a b : UInt8) : Pur Try.prog 70 #[.int .u8 (B a), .int .u8 (B b)] (.int .u8 (B (Gf.mul a b))) :=
  fun w => (refMul_same a b w).mono fun _ _ ⟨h, h'⟩ => ⟨h, 0, h'⟩

def PowAt (a : UInt8) (n : Nat) (x m o : Value) : Prop :=
  ∃ (a' o' : UInt8) (n' : Nat), n' ≤ n ∧ x = .int .u8 (B a') ∧ m = .int .u64 (n' : Int) ∧ o = .int .u8 (B o') ∧ Hid (Gf.mul o' (Gf.pow a' n') = Gf.pow a n)

theorem turned_walk (a : UInt8) (n : Nat) (h : n < 8) : bits BinOp.or IntKind.u8 (B a * 2 ^ n % 256) (B a / 2 ^ (8 - n)) = B (Gf.rot a n) := by
  have h' : ∀ x < 256, ∀ n < 8, bits BinOp.or IntKind.u8 (B (UInt8.ofNat x) * 2 ^ n % 256) (B (UInt8.ofNat x) / 2 ^ (8 - n)) = B (Gf.rot (UInt8.ofNat x) n) := by decide +kernel
  have := h' a.toNat a.toNat_lt n h
  simpa using this

end Go.Proofs.Ytgaecjhghpkcoaa
end

section
namespace Go.Proofs.Ytgaecjhghpkcoaa
open Go.RowKit
attribute [local go_sem] B_xor B_or B_and

set_option maxHeartbeats 400000 in
theorem refTurn_pur (a : UInt8) (n : Int) (h0 : 0 ≤ n) (h1 : n ≤ 1000) : Pur Try.prog 89 #[.int .u8 (B a), .int .i64 n] (.int .i64 (B (Gf.rot a n.toNat))) := by
  obtain ⟨n, rfl⟩ := Int.eq_ofNat_of_zero_le h0
  rw [Int.toNat_natCast]
  intro w
  have hstep : ∀ x : UInt8, 2 * B x % 256 + B x / 128 = B (Gf.rot1 x) := by
    apply Gf.all256; decide +kernel
  have HS := Lib.hid hstep; clear hstep
  obtain ⟨a0, a1⟩ := B_bd a
  go_enter Try.func89, Try.ntmps89
  go_wp2_with fail
  go_loop [5, 6] (fun o i => ∃ k : Nat, k ≤ n ∧ i = .int .i64 (k : Int) ∧ o = .int .i64 (B (Gf.rot a k))) (fun _ i => n - (intOf i).toNat)
  case atStart => exact ⟨0, by omega, rfl, rfl⟩
  case round =>
    obtain ⟨k, hk, rfl, rfl⟩ := hrel
    obtain ⟨r0, r1⟩ := B_bd (Gf.rot a k)
    by_cases hlt : k < n
    · go_wp2_with fail
      go_round
      case rel =>
        refine ⟨k + 1, by omega, by go_num, ?_⟩
        rw [HS.out]; rfl
      case measure => simp [intOf]; omega
    · go_wp2_with fail
      go_ret
      obtain rfl : k = n := by omega
      exact ⟨rfl, 0, rfl⟩

set_option maxHeartbeats 1000000 in
theorem refInv_zero (w : World) : Calls Try.prog 88 #[.int .u8 (B 0)] w fun e w' => e = .returned (.int .u8 (B 0)) ∧ w' = w := by
  have h0 : B 0 = 0 := rfl
  rw [h0]; clear h0
  go_enter Try.func88, Try.ntmps88
  go_wp2_with fail
  go_ret
  exact ⟨rfl, rfl⟩

theorem refMul3_pur (b : UInt8) : Pur Try.prog 70 #[.int .u8 3, .int .u8 (B b)] (.int .u8 (B (Gf.mul 3 b))) := by
  have h := refMul_pur 3 b
  rwa [show B 3 = 3 from rfl] at h
theorem three_step (n : Nat) : Gf.mul 3 (Gf.three n) = Gf.three (n + 1) := rfl

set_option maxRecDepth 100000 in
set_option maxHeartbeats 1000000 in
theorem refInv_some (a : UInt8) (ha : a ≠ 0) : Pur Try.prog 88 #[.int .u8 (B a)] (.int .u8 (B (Gf.inv a))) := by
  intro w
  have hz : (B a == 0) = false := by
    rw [beq_eq_false_iff_ne]; intro h; exact ha (B_inj (by rw [h]; rfl))
  obtain ⟨m, hm, hma⟩ := Gf.three_all a ha
  have HM := Lib.hid hma; clear hma
  have HA := Lib.hid ha; clear ha
  go_enter Try.func88, Try.ntmps88
  go_wp2_with fail
  go_loopw [3, 4] (fun n p wr => ∃ k : Nat, k ≤ m ∧ n = .int .i64 (k : Int) ∧ p = .int .u8 (B (Gf.three k)) ∧ Hid (∃ k, wr = w.drewN k)) (fun n _ _ => 255 - (intOf n).toNat)
  case atStart => exact ⟨0, by omega, rfl, rfl, 0, rfl⟩
  case round =>
    obtain ⟨k, hk, rfl, rfl, HW⟩ := hrel
    by_cases hne : Gf.three k = a
    · have hb : (B (Gf.three k) != B a) = false := by simp [hne]
      have HE : Hid _ := Lib.hid hne
      clear hne
      go_wp2_with fail
      go_loopw [5, 6] (fun o i wr => ∃ j : Nat, k ≤ j ∧ j ≤ 255 ∧ i = .int .i64 (j : Int) ∧ o = .int .u8 (B (Gf.three (j - k))) ∧ Hid (∃ k, wr = w.drewN k)) (fun _ i _ => 255 - (intOf i).toNat)
      case atStart => exact ⟨k, by omega, by omega, rfl, by rw [Nat.sub_self]; rfl, HW⟩
      case round =>
        obtain ⟨j, hj1, hj2, rfl, rfl, HW⟩ := hrel
        by_cases hlt : j < 255
        · go_wp2_with fail
          refine (refMul3_pur _).go _ |>.mono ?_; rintro e w' ⟨rfl, k1, rfl⟩
          go_wp2_with fail
          go_roundw
          case rel =>
            refine ⟨j + 1, by omega, by omega, by go_num, ?_, ?_⟩
            · rw [three_step, show j + 1 - k = j - k + 1 by omega]
            · exact drew_on HW _
          case measure => simp [intOf]; omega
        · go_wp2_with fail
          go_ret
          obtain rfl : j = 255 := by omega
          refine ⟨?_, HW.out⟩
          rw [← HE.out, ← Gf.three_inv k (by omega)]; rfl
    · have hb : (B (Gf.three k) != B a) = true := by
        rw [bne_iff_ne]; intro h; exact hne (B_inj h)
      have hkm : k < m := by
        rcases Nat.lt_or_ge k m with h | h
        · exact h
        · exact (hne (by rw [← HM.out]; congr 1; omega)).elim
      clear hne
      go_wp2_with fail
      refine (refMul3_pur _).go _ |>.mono ?_; rintro e w' ⟨rfl, k1, rfl⟩
      go_wp2_with fail
      go_roundw
      case rel =>
        refine ⟨k + 1, by omega, by go_num, rfl, ?_⟩
        exact drew_on HW _
      case measure => simp [intOf]; omega

theorem refInv_pur (a : UInt8) : Pur Try.prog 88 #[.int .u8 (B a)] (.int .u8 (B (Gf.inv a))) := by
  by_cases h : a = 0
  · subst h; rw [Gf.inv_zero]; exact fun w => (refInv_zero w).mono fun _ _ ⟨h, h'⟩ => ⟨h, 0, h'⟩
  · exact refInv_some a h

/-- the box behind k of the five sums -/
def boxTo (b : UInt8) : Nat → UInt8
  | 0 => 99
  | k + 1 => boxTo b k ^^^ Gf.rot b k
theorem boxTo_box (b : UInt8) : boxTo b 5 = Gf.aff b := by
  revert b; apply Gf.all256; decide +kernel

set_option maxHeartbeats 400000 in
theorem refBox_pur (a : UInt8) : Pur Try.prog 69 #[.int .u8 (B a)] (.int .u8 (B (Gf.box a))) := by
  intro w
  have hx := @xor_walk64
  go_enter Try.func69, Try.ntmps69
  go_wp2_with fail
  refine (refInv_pur a).go _ |>.mono ?_; rintro e w' ⟨rfl, k1, rfl⟩
  go_wp2_with fail
  go_loopw [4, 5] (fun n i wr => ∃ k : Nat, k ≤ 5 ∧ i = .int .i64 (k : Int) ∧ n = .int .i64 (B (boxTo (Gf.inv a) k)) ∧ Hid (∃ k, wr = w.drewN k)) (fun _ i _ => 5 - (intOf i).toNat)
  case atStart => exact ⟨0, by omega, rfl, rfl, k1, rfl⟩
  case round =>
    obtain ⟨k, hk, rfl, rfl, HW⟩ := hrel
    obtain ⟨r0, r1⟩ := B_bd (boxTo (Gf.inv a) k)
    by_cases hlt : k < 5
    · go_wp2_with fail
      refine (refTurn_pur _ k (by omega) (by omega)).go _ |>.mono ?_; rintro e w' ⟨rfl, k1, rfl⟩
      rw [Int.toNat_natCast]
      go_wp2_with fail
      go_roundw
      case rel =>
        refine ⟨k + 1, by omega, by go_num, rfl, ?_⟩
        exact drew_on HW _
      case measure => simp [intOf]; omega
    · go_wp2_with fail
      go_ret
      obtain rfl : k = 5 := by omega
      refine ⟨?_, HW.out⟩
      rw [boxTo_box]; rfl

end Go.Proofs.Ytgaecjhghpkcoaa
end

section
namespace Go.Proofs.Ytgaecjhghpkcoaa
open Go.RowKit
attribute [local go_sem] B_xor B_or B_and
attribute [local go_sem] blk_set blk_size blk_get blk_getE upd_same oneCells_blk paste_blk cut_blk szOf
attribute [local go_sem high] paste_all cut_head
attribute [local go_sem] rowAt_alloc rowAt_drew rowAt_drewN isRow_alloc isRow_drew isRow_drewN freeRow_alloc freeRow_drew freeRow_drewN
attribute [local go_sem] setRow_alloc setRow_drew setRow_drewN setCell_drewN alloc_drewN
attribute [local go_sem ↓] loadS_in storeS_in indexS_in copyS_in
attribute [local go_sem] loadS_row loadS_one storeS_row storeS_one indexS_blk copyS_rows
theorem zero4 : (#[Value.int IntKind.u8 0, Value.int IntKind.u8 0, Value.int IntKind.u8 0, Value.int IntKind.u8 0] : Array Value) = blk 4 (fun _ => 0) := rfl

def colRow (f : Nat → UInt8) (i : Nat) : Nat → UInt8 := fun j => f ((j + 3 * i) % 4)
def colTo (c f : Nat → UInt8) (i : Nat) : Nat → UInt8
  | 0 => 0
  | k + 1 => colTo c f i k ^^^ Gf.mul (colRow f i k) (c k)
def colOut (c f : Nat → UInt8) (i : Nat) : Nat → UInt8 := fun t => if t < i then colTo c f t 4 else 0
theorem colRow_begin (f : Nat → UInt8) : blk 4 f = blk 4 (colRow f 0) :=
  blk_congr fun i hi => by simp only [colRow]; congr 1; omega
theorem colRow_next (f : Nat → UInt8) (m : Nat) : blk 4 (upd (cpy (colRow f m) 1 (colRow f m) 0 3) 0 (colRow f m 3)) = blk 4 (colRow f (m + 1)) :=
  blk_congr fun i hi => by
    unfold upd cpy colRow
    split
    · rename_i h; subst h; congr 1; omega
    · rw [if_pos (by omega)]; simp only [Nat.zero_add]; congr 1; omega
theorem colOut_begin (c f : Nat → UInt8) (m : Nat) : blk 4 (upd (colOut c f m) m (colTo c f m 0)) = blk 4 (colOut c f m) :=
  blk_congr fun i hi => by unfold upd; split <;> simp_all [colOut, colTo]
theorem colOut_step (c f : Nat → UInt8) (m k : Nat) : blk 4 (upd (upd (colOut c f m) m (colTo c f m k)) m (colTo c f m k ^^^ Gf.mul (colRow f m k) (c k))) = blk 4 (upd (colOut c f m) m (colTo c f m (k + 1))) :=
  blk_congr fun i hi => by unfold upd; split <;> simp_all [colTo]
theorem colOut_next (c f : Nat → UInt8) (m : Nat) : blk 4 (upd (colOut c f m) m (colTo c f m 4)) = blk 4 (colOut c f (m + 1)) :=
  blk_congr fun i hi => by
    unfold upd colOut
    by_cases h : i = m
    · subst h; simp
    · simp only [h, if_false]
      by_cases h2 : i < m
      · rw [if_pos h2, if_pos (by omega)]
      · rw [if_neg h2, if_neg (by omega)]

end Go.Proofs.Ytgaecjhghpkcoaa
end

section
namespace Go.Proofs.Ytgaecjhghpkcoaa
open Go.RowKit
attribute [local go_sem] B_xor B_or B_and
attribute [local go_sem] blk_set blk_size blk_get blk_getE upd_same oneCells_blk paste_blk cut_blk szOf
attribute [local go_sem high] paste_all cut_head
attribute [local go_sem] rowAt_alloc rowAt_drew rowAt_drewN isRow_alloc isRow_drew isRow_drewN freeRow_alloc freeRow_drew freeRow_drewN
attribute [local go_sem] setRow_alloc setRow_drew setRow_drewN setCell_drewN alloc_drewN rowAt_put isRow_setRow freeRow_put
attribute [local go_sem ↓] loadS_in storeS_in indexS_in copyS_in
attribute [local go_sem] loadS_row loadS_one storeS_row storeS_one indexS_blk copyS_rows

def four (a b c d : UInt8) : Nat → UInt8 := fun i => match i with | 0 => a | 1 => b | 2 => c | _ => d
theorem four_lit (a b c d : UInt8) : (#[Value.int IntKind.u8 (B a), Value.int IntKind.u8 (B b), Value.int IntKind.u8 (B c), Value.int IntKind.u8 (B d)] : Array Value) = blk 4 (four a b c d) := rfl

theorem colOut_mix (c : Nat → UInt8) : blk 4 (colOut c (four 2 3 1 1) 4) = blk 4 (Gf.mix c) :=
  blk_congr fun i hi => by
    have h : i = 0 ∨ i = 1 ∨ i = 2 ∨ i = 3 := by omega
    have e : ∀ a b d e : UInt8, 0 ^^^ a ^^^ b ^^^ d ^^^ e = a ^^^ b ^^^ d ^^^ e := by intro a b d e; simp
    rcases h with rfl | rfl | rfl | rfl <;>
      simp only [colOut, colTo, colRow, four, Gf.mix, Gf.one_mul, e, show (0 : Nat) < 4 from by decide, show (1 : Nat) < 4 from by decide, show (2 : Nat) < 4 from by decide, show (3 : Nat) < 4 from by decide, if_true, Nat.reduceMod, Nat.reduceMul, Nat.reduceAdd] <;>
      ac_rfl

theorem colOut_unmix (c : Nat → UInt8) : blk 4 (colOut c (four 14 11 13 9) 4) = blk 4 (Gf.unmix c) :=
  blk_congr fun i hi => by
    have h : i = 0 ∨ i = 1 ∨ i = 2 ∨ i = 3 := by omega
    have e : ∀ a b d e : UInt8, 0 ^^^ a ^^^ b ^^^ d ^^^ e = a ^^^ b ^^^ d ^^^ e := by intro a b d e; simp
    rcases h with rfl | rfl | rfl | rfl <;>
      simp only [colOut, colTo, colRow, four, Gf.unmix, e, show (0 : Nat) < 4 from by decide, show (1 : Nat) < 4 from by decide, show (2 : Nat) < 4 from by decide, show (3 : Nat) < 4 from by decide, if_true, Nat.reduceMod, Nat.reduceMul, Nat.reduceAdd] <;>
      ac_rfl

theorem built_unmix : ((((blk 4 fun _ => 0).setIfInBounds 0 (Value.int .u8 14)).setIfInBounds 1 (Value.int .u8 11)).setIfInBounds 2 (Value.int .u8 13)).setIfInBounds 3 (Value.int .u8 9) = blk 4 (four 14 11 13 9) := rfl
end Go.Proofs.Ytgaecjhghpkcoaa
end

section
namespace Go.Proofs.Ytgaecjhghpkcoaa
open Go.RowKit
attribute [local go_sem] B_xor B_or B_and
attribute [local go_sem] blk_set blk_size blk_get blk_getE upd_same oneCells_blk paste_blk cut_blk szOf
attribute [local go_sem high] paste_all cut_head
attribute [local go_sem] rowAt_alloc rowAt_drew rowAt_drewN isRow_alloc isRow_drew isRow_drewN freeRow_alloc freeRow_drew freeRow_drewN
attribute [local go_sem] setRow_alloc setRow_drew setRow_drewN setCell_drewN alloc_drewN rowAt_put isRow_setRow freeRow_put
attribute [local go_sem ↓] loadS_in storeS_in indexS_in copyS_in
attribute [local go_sem] loadS_row loadS_one storeS_row storeS_one indexS_blk copyS_rows

theorem refMul_at (x y : Int) (a b : UInt8) (hx : x = B a) (hy : y = B b) : Pur Try.prog 70 #[.int .u8 x, .int .u8 y] (.int .u8 (B (Gf.mul a b))) := by
  subst hx; subst hy; exact refMul_pur a b
theorem B_two : (2 : Int) = B 2 := rfl
theorem B_three : (3 : Int) = B 3 := rfl
/-- so many places on, round the end -/
def on4 (m k : Nat) : Nat := (m + k) % 4
theorem on4_lt (m k : Nat) : on4 m k < 4 := Nat.mod_lt _ (by omega)
theorem on4_tmod (m k : Nat) : ((m : Int) + (k : Int)).tmod 4 = (on4 m k : Int) := by
  rw [Int.tmod_eq_emod_of_nonneg (by omega)]; unfold on4; omega
def mixTo (c : Nat → UInt8) (i : Nat) : Nat → UInt8 := fun t => if t < i then Gf.mix c t else 0
theorem mixTo_begin (c : Nat → UInt8) : blk 4 (fun _ => 0) = blk 4 (mixTo c 0) := rfl
theorem mixTo_next (c : Nat → UInt8) (m : Nat) : blk 4 (upd (mixTo c m) m (Gf.mul 2 (c m) ^^^ Gf.mul 3 (c (on4 m 1)) ^^^ c (on4 m 2) ^^^ c (on4 m 3))) = blk 4 (mixTo c (m + 1)) :=
  blk_congr fun i hi => by
    unfold upd mixTo
    by_cases h : i = m
    · subst h; simp [Gf.mix, on4]
    · simp only [h, if_false]
      by_cases h2 : i < m
      · rw [if_pos h2, if_pos (by omega)]
      · rw [if_neg h2, if_neg (by omega)]
theorem mixTo_end (c : Nat → UInt8) : blk 4 (mixTo c 4) = blk 4 (Gf.mix c) := blk_congr fun i hi => by simp [mixTo, hi]

set_option maxHeartbeats 1000000 in
theorem refMix_any (c : Nat → UInt8) (w : World) : Calls Try.prog 87 #[.agg (blk 4 c)] w fun e w' => e = .returned (.agg (blk 4 (Gf.mix c))) ∧ Below w.heap.size w w' := by
  have hz := zero4
  go_enter Try.func87, Try.ntmps87
  go_wp2_with fail
  go_loopw [4] (fun i wr => ∃ m n : Nat, m ≤ 4 ∧ i = .int .i64 (m : Int) ∧ wr = (((w.alloc (.cells (blk 4 c) 117)).alloc (.cells (blk 4 fun _ => 0) 117)).alloc (.cells (blk 4 (mixTo c m)) 117)).drewN n) (fun i _ => 4 - (intOf i).toNat)
  case atStart => exact ⟨0, 0, by omega, rfl, by rw [← mixTo_begin]; rfl⟩
  case round =>
    obtain ⟨m, n, hm, rfl, rfl⟩ := hrel
    by_cases hlt : m < 4
    · have b1 := on4_lt m 1
      have b2 := on4_lt m 2
      have b3 := on4_lt m 3
      have w1 : IntKind.i64.wrap ((m : Int) + 1) = (m : Int) + 1 := IntWalk.i64_in _ (by omega)
      have w2 : IntKind.i64.wrap ((m : Int) + 2) = (m : Int) + 2 := IntWalk.i64_in _ (by omega)
      have w3 : IntKind.i64.wrap ((m : Int) + 3) = (m : Int) + 3 := IntWalk.i64_in _ (by omega)
      have t1 : ((m : Int) + 1).tmod 4 = (on4 m 1 : Int) := on4_tmod m 1
      have t2 : ((m : Int) + 2).tmod 4 = (on4 m 2 : Int) := on4_tmod m 2
      have t3 : ((m : Int) + 3).tmod 4 = (on4 m 3 : Int) := on4_tmod m 3
      have v1 : IntKind.i64.wrap (on4 m 1 : Int) = (on4 m 1 : Int) := IntWalk.i64_in _ (by omega)
      have v2 : IntKind.i64.wrap (on4 m 2 : Int) = (on4 m 2 : Int) := IntWalk.i64_in _ (by omega)
      have v3 : IntKind.i64.wrap (on4 m 3 : Int) = (on4 m 3 : Int) := IntWalk.i64_in _ (by omega)
      have c1 : (on4 m 1 : Int) < 4 := by omega
      have c2 : (on4 m 2 : Int) < 4 := by omega
      have c3 : (on4 m 3 : Int) < 4 := by omega
      go_wp2_with fail
      go_region_held3 (fun w' => w'.cell? ⟨w.heap.size, m, none⟩ = some (.int .u8 (B (c m))) ∧ w'.cell? ⟨w.heap.size, on4 m 1, none⟩ = some (.int .u8 (B (c (on4 m 1)))) ∧ w'.cell? ⟨w.heap.size, on4 m 2, none⟩ = some (.int .u8 (B (c (on4 m 2)))) ∧ w'.cell? ⟨w.heap.size, on4 m 3, none⟩ = some (.int .u8 (B (c (on4 m 3))))) (simp [go_sem, hlt, b1, b2, b3]) (first | (go_at_call 70; refine ((refMul_at _ _ _ _ (by first | exact B_two | exact B_three) rfl).go _).mono ?_; rintro e w' ⟨rfl, k1, rfl⟩))
      go_wp2_with fail
      go_roundw
      case rel => exact ⟨m + 1, _, by omega, by go_num, by rw [mixTo_next]⟩
      case measure => simp [intOf]; omega
    · go_wp2_with fail
      obtain rfl : m = 4 := by omega
      refine bodyPost_ret (results_row rfl _ (w.heap.size + 1) rfl (blk 4 (mixTo c 4)) (by simp [go_sem]) (by simp [go_sem]) (by simp [go_sem]) (by simp [go_sem])) rfl ⟨by rw [mixTo_end], ?_⟩
      repeat (first | exact Below.refl _ _ | refine below_drewN ?_ | refine Below.alloc ?_ (by (try simp only [World.size_alloc]); omega) _)

end Go.Proofs.Ytgaecjhghpkcoaa
end

section
namespace Go.Proofs.Ytgaecjhghpkcoaa.Ci
open Gf

/-- two blocks put together -/
def xorB (a b : Nat → UInt8) : Nat → UInt8 := fun i => a i ^^^ b i
def turnAt (i : Nat) : Nat := (i + 4 * (i % 4)) % 16
def unturnAt (i : Nat) : Nat := (i + 12 * (i % 4)) % 16
def turn (b : Nat → UInt8) : Nat → UInt8 := fun i => b (turnAt i)
def unturn (b : Nat → UInt8) : Nat → UInt8 := fun i => b (unturnAt i)
def each (g : UInt8 → UInt8) (b : Nat → UInt8) : Nat → UInt8 := fun i => g (b i)
/-- a column -/
def col (b : Nat → UInt8) (n : Nat) : Nat → UInt8 := fun k => b (4 * n + k)
def columns (m : (Nat → UInt8) → Nat → UInt8) (b : Nat → UInt8) : Nat → UInt8 := fun i => m (col b (i / 4)) (i % 4)
/-- a round of some -/
def rd (r : Nat → UInt8) (n : Nat) : Nat → UInt8 := fun i => r (16 * n + i)

/-- the word that is put to the first of a round -/
def first (b : Nat → UInt8) (mark : UInt8) : Nat → UInt8 := fun i => match i with
  | 0 => box (b 13) ^^^ mark
  | 1 => box (b 14)
  | 2 => box (b 15)
  | _ => box (b 12)
/-- the round behind one, word by word -/
def nextAt (b t : Nat → UInt8) : Nat → Nat → UInt8
  | 0, i => b i ^^^ t i
  | n + 1, i => b (4 * (n + 1) + i) ^^^ nextAt b t n i
def next (b : Nat → UInt8) (mark : UInt8) : Nat → UInt8 := fun j => nextAt b (first b mark) (j / 4) (j % 4)
def mark : Nat → UInt8
  | 0 => 1
  | n + 1 => dbl (mark n)
/-- round n of a key -/
def expand (key : Nat → UInt8) : Nat → Nat → UInt8
  | 0 => key
  | n + 1 => next (expand key n) (mark n)
/-- all rounds in a row -/
def rounds (key : Nat → UInt8) : Nat → UInt8 := fun j => expand key (j / 16) (j % 16)

/-- a block in secret: behind n rounds -/
def sealTo (r b : Nat → UInt8) : Nat → Nat → UInt8
  | 0 => xorB b (rd r 0)
  | n + 1 => xorB (columns mix (turn (each box (sealTo r b n)))) (rd r (n + 1))
def sealB (r b : Nat → UInt8) : Nat → UInt8 := xorB (turn (each box (sealTo r b 9))) (rd r 10)
/-- told again: behind n rounds, from the last on -/
def openTo (r b : Nat → UInt8) : Nat → Nat → UInt8
  | 0 => xorB b (rd r 10)
  | n + 1 => columns unmix (xorB (each unbox (unturn (openTo r b n))) (rd r (9 - n)))
def openB (r b : Nat → UInt8) : Nat → UInt8 := xorB (each unbox (unturn (openTo r b 9))) (rd r 0)

/-! ### the same bytes -/
def EqB (a b : Nat → UInt8) : Prop := ∀ i, i < 16 → a i = b i
theorem EqB.refl (a : Nat → UInt8) : EqB a a := fun _ _ => rfl
theorem EqB.symm {a b : Nat → UInt8} (h : EqB a b) : EqB b a := fun i hi => (h i hi).symm
theorem EqB.trans {a b c : Nat → UInt8} (h : EqB a b) (k : EqB b c) : EqB a c := fun i hi => (h i hi).trans (k i hi)
theorem turnAt_lt (i : Nat) : turnAt i < 16 := Nat.mod_lt _ (by decide)
theorem unturnAt_lt (i : Nat) : unturnAt i < 16 := Nat.mod_lt _ (by decide)
theorem turn_unturnAt : ∀ i < 16, turnAt (unturnAt i) = i := by decide
theorem unturn_turnAt : ∀ i < 16, unturnAt (turnAt i) = i := by decide
theorem EqB.xor {a b c d : Nat → UInt8} (h : EqB a b) (k : EqB c d) : EqB (xorB a c) (xorB b d) := fun i hi => by unfold xorB; rw [h i hi, k i hi]
theorem EqB.turn {a b : Nat → UInt8} (h : EqB a b) : EqB (turn a) (turn b) := fun i _ => h _ (turnAt_lt i)
theorem EqB.unturn {a b : Nat → UInt8} (h : EqB a b) : EqB (unturn a) (unturn b) := fun i _ => h _ (unturnAt_lt i)
theorem EqB.each {a b : Nat → UInt8} (h : EqB a b) (g : UInt8 → UInt8) : EqB (each g a) (each g b) := fun i hi => by unfold Ci.each; rw [h i hi]
theorem mix_congr {c d : Nat → UInt8} (h : ∀ i, i < 4 → c i = d i) (i : Nat) (hi : i < 4) : mix c i = mix d i := by
  unfold mix
  rw [h i hi, h _ (Nat.mod_lt _ (by decide)), h _ (Nat.mod_lt _ (by decide)), h _ (Nat.mod_lt _ (by decide))]
theorem unmix_congr {c d : Nat → UInt8} (h : ∀ i, i < 4 → c i = d i) (i : Nat) (hi : i < 4) : unmix c i = unmix d i := by
  unfold unmix
  rw [h i hi, h _ (Nat.mod_lt _ (by decide)), h _ (Nat.mod_lt _ (by decide)), h _ (Nat.mod_lt _ (by decide))]
theorem EqB.columns {a b : Nat → UInt8} {m : (Nat → UInt8) → Nat → UInt8} (hm : ∀ {c d : Nat → UInt8}, (∀ i, i < 4 → c i = d i) → ∀ i, i < 4 → m c i = m d i) (h : EqB a b) : EqB (columns m a) (columns m b) := fun i hi => by
  unfold Ci.columns
  refine hm (fun k hk => ?_) _ (Nat.mod_lt _ (by decide))
  exact h _ (by omega)
theorem EqB.rd {r s : Nat → UInt8} (h : ∀ j, j < 176 → r j = s j) (n : Nat) (hn : n ≤ 10) : EqB (rd r n) (rd s n) := fun i hi => h _ (by omega)

theorem xor_cancel (a b : UInt8) : a ^^^ b ^^^ b = a := by rw [UInt8.xor_assoc, UInt8.xor_self, UInt8.xor_zero]
theorem xorB_cancel (a b : Nat → UInt8) : xorB (xorB a b) b = a := by funext i; exact xor_cancel _ _
theorem turn_unturn (a : Nat → UInt8) : EqB (turn (unturn a)) a := fun i hi => by show a (unturnAt (turnAt i)) = a i; rw [unturn_turnAt i hi]
theorem unturn_turn (a : Nat → UInt8) : EqB (unturn (turn a)) a := fun i hi => by show a (turnAt (unturnAt i)) = a i; rw [turn_unturnAt i hi]
theorem unbox_each (a : Nat → UInt8) : each unbox (each box a) = a := by funext i; exact unbox_box _
theorem box_each (a : Nat → UInt8) : each box (each unbox a) = a := by funext i; exact box_unbox _

/-! ### mixed columns undone: both sides add up, byte by byte -/
theorem four_cases {i : Nat} (hi : i < 4) : i = 0 ∨ i = 1 ∨ i = 2 ∨ i = 3 := by omega
theorem mul_add4 (k a b c d : UInt8) : mul k (a ^^^ b ^^^ c ^^^ d) = mul k a ^^^ mul k b ^^^ mul k c ^^^ mul k d := by rw [mul_xor_right, mul_xor_right, mul_xor_right]
theorem xor_ac (a b c d e f g h i j k l m n o p : UInt8) :
    (a ^^^ b ^^^ c ^^^ d) ^^^ (e ^^^ f ^^^ g ^^^ h) ^^^ (i ^^^ j ^^^ k ^^^ l) ^^^ (m ^^^ n ^^^ o ^^^ p) = (a ^^^ e ^^^ i ^^^ m) ^^^ (b ^^^ f ^^^ j ^^^ n) ^^^ (c ^^^ g ^^^ k ^^^ o) ^^^ (d ^^^ h ^^^ l ^^^ p) := by ac_rfl
theorem coef (k l m n x : UInt8) : mul k x ^^^ mul l x ^^^ mul m x ^^^ mul n x = mul (k ^^^ l ^^^ m ^^^ n) x := by rw [mul_xor_left, mul_xor_left, mul_xor_left]
/-- turned round by k places -/
def sh (c : Nat → UInt8) (k : Nat) : Nat → UInt8 := fun i => c ((i + k) % 4)
theorem mix_sh (c : Nat → UInt8) (k i : Nat) (hk : k < 4) (hi : i < 4) : mix (sh c k) i = mix c ((i + k) % 4) := by
  unfold mix sh
  rcases four_cases hi with rfl | rfl | rfl | rfl <;> rcases four_cases hk with rfl | rfl | rfl | rfl <;> rfl
theorem unmix_sh (c : Nat → UInt8) (k i : Nat) (hk : k < 4) (hi : i < 4) : unmix (sh c k) i = unmix c ((i + k) % 4) := by
  unfold unmix sh
  rcases four_cases hi with rfl | rfl | rfl | rfl <;> rcases four_cases hk with rfl | rfl | rfl | rfl <;> rfl
theorem unmix_mix0 (c : Nat → UInt8) : unmix (mix c) 0 = c 0 := by
  have z : ∀ x : UInt8, mul 0 x = 0 := zero_mul
  simp only [unmix, mix, Nat.reduceAdd, Nat.reduceMod]
  rw [mul_add4, mul_add4, mul_add4, mul_add4]
  simp only [← mul_assoc]
  rw [show (mul (mul 14 2) (c 0) ^^^ mul (mul 14 3) (c 1) ^^^ mul 14 (c 2) ^^^ mul 14 (c 3) ^^^ (mul (mul 11 2) (c 1) ^^^ mul (mul 11 3) (c 2) ^^^ mul 11 (c 3) ^^^ mul 11 (c 0)) ^^^ (mul (mul 13 2) (c 2) ^^^ mul (mul 13 3) (c 3) ^^^ mul 13 (c 0) ^^^ mul 13 (c 1)) ^^^ (mul (mul 9 2) (c 3) ^^^ mul (mul 9 3) (c 0) ^^^ mul 9 (c 1) ^^^ mul 9 (c 2))) = (mul (mul 14 2) (c 0) ^^^ mul 11 (c 0) ^^^ mul 13 (c 0) ^^^ mul (mul 9 3) (c 0)) ^^^ (mul (mul 14 3) (c 1) ^^^ mul (mul 11 2) (c 1) ^^^ mul 13 (c 1) ^^^ mul 9 (c 1)) ^^^ (mul 14 (c 2) ^^^ mul (mul 11 3) (c 2) ^^^ mul (mul 13 2) (c 2) ^^^ mul 9 (c 2)) ^^^ (mul 14 (c 3) ^^^ mul 11 (c 3) ^^^ mul (mul 13 3) (c 3) ^^^ mul (mul 9 2) (c 3)) from by ac_rfl]
  rw [coef, coef, coef, coef, show mul 14 2 ^^^ 11 ^^^ 13 ^^^ mul 9 3 = 1 from by decide +kernel, show mul 14 3 ^^^ mul 11 2 ^^^ 13 ^^^ 9 = 0 from by decide +kernel, show 14 ^^^ mul 11 3 ^^^ mul 13 2 ^^^ 9 = 0 from by decide +kernel, show 14 ^^^ 11 ^^^ mul 13 3 ^^^ mul 9 2 = 0 from by decide +kernel]
  simp [z, one_mul]
theorem mix_unmix0 (c : Nat → UInt8) : mix (unmix c) 0 = c 0 := by
  have z : ∀ x : UInt8, mul 0 x = 0 := zero_mul
  have o : ∀ x : UInt8, x = mul 1 x := fun x => (one_mul x).symm
  simp only [unmix, mix, Nat.reduceAdd, Nat.reduceMod]
  rw [mul_add4, mul_add4]
  simp only [← mul_assoc]
  rw [show (mul (mul 2 14) (c 0) ^^^ mul (mul 2 11) (c 1) ^^^ mul (mul 2 13) (c 2) ^^^ mul (mul 2 9) (c 3) ^^^ (mul (mul 3 14) (c 1) ^^^ mul (mul 3 11) (c 2) ^^^ mul (mul 3 13) (c 3) ^^^ mul (mul 3 9) (c 0)) ^^^ (mul 14 (c 2) ^^^ mul 11 (c 3) ^^^ mul 13 (c 0) ^^^ mul 9 (c 1)) ^^^ (mul 14 (c 3) ^^^ mul 11 (c 0) ^^^ mul 13 (c 1) ^^^ mul 9 (c 2))) = (mul (mul 2 14) (c 0) ^^^ mul (mul 3 9) (c 0) ^^^ mul 13 (c 0) ^^^ mul 11 (c 0)) ^^^ (mul (mul 2 11) (c 1) ^^^ mul (mul 3 14) (c 1) ^^^ mul 9 (c 1) ^^^ mul 13 (c 1)) ^^^ (mul (mul 2 13) (c 2) ^^^ mul (mul 3 11) (c 2) ^^^ mul 14 (c 2) ^^^ mul 9 (c 2)) ^^^ (mul (mul 2 9) (c 3) ^^^ mul (mul 3 13) (c 3) ^^^ mul 11 (c 3) ^^^ mul 14 (c 3)) from by ac_rfl]
  rw [coef, coef, coef, coef, show mul 2 14 ^^^ mul 3 9 ^^^ 13 ^^^ 11 = 1 from by decide +kernel, show mul 2 11 ^^^ mul 3 14 ^^^ 9 ^^^ 13 = 0 from by decide +kernel, show mul 2 13 ^^^ mul 3 11 ^^^ 14 ^^^ 9 = 0 from by decide +kernel, show mul 2 9 ^^^ mul 3 13 ^^^ 11 ^^^ 14 = 0 from by decide +kernel]
  simp [z, one_mul]
theorem unmix_mix (c : Nat → UInt8) (i : Nat) (hi : i < 4) : unmix (mix c) i = c i := by
  have h := unmix_sh (mix c) i 0 hi (by decide)
  rw [Nat.zero_add, Nat.mod_eq_of_lt hi] at h
  rw [← h, unmix_congr (c := sh (mix c) i) (d := mix (sh c i)) (fun k hk => (mix_sh c i k hi hk).symm) 0 (by decide), unmix_mix0]
  show c ((0 + i) % 4) = c i
  rw [Nat.zero_add, Nat.mod_eq_of_lt hi]
theorem mix_unmix (c : Nat → UInt8) (i : Nat) (hi : i < 4) : mix (unmix c) i = c i := by
  have h := mix_sh (unmix c) i 0 hi (by decide)
  rw [Nat.zero_add, Nat.mod_eq_of_lt hi] at h
  rw [← h, mix_congr (c := sh (unmix c) i) (d := unmix (sh c i)) (fun k hk => (unmix_sh c i k hi hk).symm) 0 (by decide), mix_unmix0]
  show c ((0 + i) % 4) = c i
  rw [Nat.zero_add, Nat.mod_eq_of_lt hi]
theorem col_columns (m : (Nat → UInt8) → Nat → UInt8) (b : Nat → UInt8) (n : Nat) : ∀ k, k < 4 → col (columns m b) n k = m (col b n) k := fun k hk => by
  unfold col columns
  rw [show (4 * n + k) / 4 = n by omega, show (4 * n + k) % 4 = k by omega]; rfl
theorem columns_undo (m u : (Nat → UInt8) → Nat → UInt8) (hu : ∀ {c d : Nat → UInt8}, (∀ i, i < 4 → c i = d i) → ∀ i, i < 4 → u c i = u d i) (h : ∀ c i, i < 4 → u (m c) i = c i) (b : Nat → UInt8) : EqB (columns u (columns m b)) b := fun i _ => by
  show u (col (columns m b) (i / 4)) (i % 4) = b i
  have h4 : i % 4 < 4 := Nat.mod_lt _ (by decide)
  rw [hu (fun k hk => col_columns m b (i / 4) k hk) _ h4, h _ _ h4]
  show b (4 * (i / 4) + i % 4) = b i
  congr 1; omega

/-! ### what is put in secret is told again -/
theorem openTo_seal (r b : Nat → UInt8) : ∀ n, n ≤ 9 → EqB (openTo r (sealB r b) n) (turn (each box (sealTo r b (9 - n))))
  | 0, _ => by
    show EqB (xorB (xorB (turn (each box (sealTo r b 9))) (rd r 10)) (rd r 10)) _
    rw [xorB_cancel]; exact EqB.refl _
  | n + 1, hn => by
    have ih := openTo_seal r b n (by omega)
    show EqB (columns unmix (xorB (each unbox (unturn (openTo r (sealB r b) n))) (rd r (9 - n)))) _
    have e : 9 - n = (9 - (n + 1)) + 1 := by omega
    have h1 : EqB (each unbox (unturn (openTo r (sealB r b) n))) (sealTo r b (9 - n)) := by
      refine ((ih.unturn.trans (unturn_turn _)).each unbox).trans ?_
      rw [unbox_each]; exact EqB.refl _
    have h2 : EqB (xorB (each unbox (unturn (openTo r (sealB r b) n))) (rd r (9 - n))) (columns mix (turn (each box (sealTo r b (9 - (n + 1)))))) := by
      refine (h1.xor (EqB.refl (rd r (9 - n)))).trans ?_
      rw [e]
      show EqB (xorB (xorB (columns mix (turn (each box (sealTo r b (9 - (n + 1)))))) (rd r (9 - (n + 1) + 1))) (rd r (9 - (n + 1) + 1))) _
      rw [xorB_cancel]; exact EqB.refl _
    exact (EqB.columns unmix_congr h2).trans (columns_undo mix unmix unmix_congr unmix_mix _)
theorem open_seal (r b : Nat → UInt8) : EqB (openB r (sealB r b)) b := by
  show EqB (xorB (each unbox (unturn (openTo r (sealB r b) 9))) (rd r 0)) b
  have h := openTo_seal r b 9 (by omega)
  have h1 : EqB (each unbox (unturn (openTo r (sealB r b) 9))) (sealTo r b 0) := by
    refine ((h.unturn.trans (unturn_turn _)).each unbox).trans ?_
    rw [unbox_each]; exact EqB.refl _
  refine (h1.xor (EqB.refl (rd r 0))).trans ?_
  show EqB (xorB (xorB b (rd r 0)) (rd r 0)) b
  rw [xorB_cancel]; exact EqB.refl _
theorem sealTo_open (r b : Nat → UInt8) : ∀ n, n ≤ 9 → EqB (sealTo r (openB r b) n) (each unbox (unturn (openTo r b (9 - n))))
  | 0, _ => by
    show EqB (xorB (xorB (each unbox (unturn (openTo r b 9))) (rd r 0)) (rd r 0)) _
    rw [xorB_cancel]; exact EqB.refl _
  | n + 1, hn => by
    have ih := sealTo_open r b n (by omega)
    show EqB (xorB (columns mix (turn (each box (sealTo r (openB r b) n)))) (rd r (n + 1))) _
    have e : 9 - n = (9 - (n + 1)) + 1 := by omega
    have e2 : 9 - (9 - (n + 1)) = n + 1 := by omega
    have h1 : EqB (turn (each box (sealTo r (openB r b) n))) (openTo r b (9 - n)) := by
      refine (ih.each box).turn.trans ?_
      rw [box_each]; exact turn_unturn _
    have h2 : EqB (columns mix (turn (each box (sealTo r (openB r b) n)))) (xorB (each unbox (unturn (openTo r b (9 - (n + 1))))) (rd r (n + 1))) := by
      refine (EqB.columns mix_congr h1).trans ?_
      rw [e]
      show EqB (columns mix (columns unmix (xorB (each unbox (unturn (openTo r b (9 - (n + 1))))) (rd r (9 - (9 - (n + 1))))))) _
      rw [e2]
      exact columns_undo unmix mix mix_congr mix_unmix _
    refine (h2.xor (EqB.refl (rd r (n + 1)))).trans ?_
    rw [xorB_cancel]; exact EqB.refl _
theorem seal_open (r b : Nat → UInt8) : EqB (sealB r (openB r b)) b := by
  show EqB (xorB (turn (each box (sealTo r (openB r b) 9))) (rd r 10)) b
  have h := sealTo_open r b 9 (by omega)
  have h1 : EqB (turn (each box (sealTo r (openB r b) 9))) (openTo r b 0) := by
    refine (h.each box).turn.trans ?_
    rw [box_each]; exact turn_unturn _
  refine (h1.xor (EqB.refl (rd r 10))).trans ?_
  show EqB (xorB (xorB b (rd r 10)) (rd r 10)) b
  rw [xorB_cancel]; exact EqB.refl _
theorem sealTo_congr {r a b : Nat → UInt8} (h : EqB a b) : ∀ n, EqB (sealTo r a n) (sealTo r b n)
  | 0 => h.xor (EqB.refl _)
  | n + 1 => (EqB.columns mix_congr ((sealTo_congr h n).each box).turn).xor (EqB.refl _)
theorem seal_congr {r a b : Nat → UInt8} (h : EqB a b) : EqB (sealB r a) (sealB r b) := ((sealTo_congr h 9).each box).turn.xor (EqB.refl _)
theorem openTo_congr {r a b : Nat → UInt8} (h : EqB a b) : ∀ n, EqB (openTo r a n) (openTo r b n)
  | 0 => h.xor (EqB.refl _)
  | n + 1 => EqB.columns unmix_congr (((openTo_congr h n).unturn.each unbox).xor (EqB.refl _))
theorem open_congr {r a b : Nat → UInt8} (h : EqB a b) : EqB (openB r a) (openB r b) := ((openTo_congr h 9).unturn.each unbox).xor (EqB.refl _)
theorem seal_inj {r a b : Nat → UInt8} (h : EqB (sealB r a) (sealB r b)) : EqB a b := ((open_seal r a).symm.trans (open_congr h)).trans (open_seal r b)

end Go.Proofs.Ytgaecjhghpkcoaa.Ci
end

section
namespace Go.Proofs.Ytgaecjhghpkcoaa
open Go.RowKit
attribute [local go_sem] B_xor B_or B_and
attribute [local go_sem] blk_set blk_size blk_get blk_getE upd_same oneCells_blk paste_blk cut_blk szOf
attribute [local go_sem high] paste_all cut_head
attribute [local go_sem] rowAt_alloc rowAt_drew rowAt_drewN isRow_alloc isRow_drew isRow_drewN freeRow_alloc freeRow_end freeRow_drew freeRow_drewN
attribute [local go_sem] setRow_alloc setRow_drew setRow_drewN setCell_drewN alloc_drewN rowAt_put isRow_setRow freeRow_put
attribute [local go_sem ↓] loadS_in storeS_in indexS_in copyS_in
attribute [local go_sem] loadS_row loadS_one storeS_row storeS_one indexS_blk copyS_rows run_equalIn_blk same_refl arrayAt_row

theorem zero16 : (#[Value.int IntKind.u8 0, Value.int IntKind.u8 0, Value.int IntKind.u8 0, Value.int IntKind.u8 0, Value.int IntKind.u8 0, Value.int IntKind.u8 0, Value.int IntKind.u8 0, Value.int IntKind.u8 0, Value.int IntKind.u8 0, Value.int IntKind.u8 0, Value.int IntKind.u8 0, Value.int IntKind.u8 0, Value.int IntKind.u8 0, Value.int IntKind.u8 0, Value.int IntKind.u8 0, Value.int IntKind.u8 0] : Array Value) = blk 16 (fun _ => 0) := rfl

/-- of a row's bytes those below k turned -/
def upTo (f g : Nat → UInt8) (k : Nat) : Nat → UInt8 := fun i => if i < k then g i else f i
theorem upTo_zero (n : Nat) (f g : Nat → UInt8) : blk n (upTo f g 0) = blk n f := blk_congr fun i _ => by simp [upTo]
theorem upTo_all (n : Nat) (f g : Nat → UInt8) : blk n (upTo f g n) = blk n g := blk_congr fun i hi => by simp [upTo, hi]
theorem upTo_at (f g : Nat → UInt8) (k : Nat) : upTo f g k k = f k := by simp [upTo]
theorem upTo_next (n : Nat) (f g : Nat → UInt8) (k : Nat) : blk n (upd (upTo f g k) k (g k)) = blk n (upTo f g (k + 1)) := blk_congr fun i _ => by
  unfold upd upTo
  by_cases h : i = k
  · subst h; simp
  · by_cases h2 : i < k
    · rw [if_neg h, if_pos h2, if_pos (by omega)]
    · rw [if_neg h, if_neg h2, if_neg (by omega)]

set_option maxHeartbeats 400000 in
theorem xor_any (a b : Nat → UInt8) (w : World) : Calls Try.prog 59 #[.agg (blk 16 a), .agg (blk 16 b)] w fun e w' => e = .returned (.agg (blk 16 (Ci.xorB a b))) ∧ Below w.heap.size w w' := by
  have hz := zero16
  go_enter Try.func59, Try.ntmps59
  go_wp2_with fail
  go_loopw [8] (fun i wr => ∃ k : Nat, k ≤ 16 ∧ i = .int .i64 (k : Int) ∧ wr = ((w.alloc (.cells (blk 16 (upTo a (Ci.xorB a b) k)) 25)).alloc (.cells (blk 16 b) 25)).alloc (.cells (blk 16 fun _ => 0) 25)) (fun i _ => 16 - (intOf i).toNat)
  case atStart => exact ⟨0, by omega, rfl, by rw [upTo_zero]⟩
  case round =>
    obtain ⟨k, hk, rfl, rfl⟩ := hrel
    by_cases hlt : k < 16
    · have hat := upTo_at a (Ci.xorB a b) k
      go_wp2_with fail
      go_roundw
      case rel => exact ⟨k + 1, by omega, by go_num, by rw [← upTo_next]; rfl⟩
      case measure => simp [intOf]; omega
    · go_wp2_with fail
      obtain rfl : k = 16 := by omega
      refine bodyPost_ret (results_row rfl _ (w.heap.size + 1 + 1) rfl (blk 16 (Ci.xorB a b)) (by simp [go_sem, upTo_all]) (by simp [go_sem]) (by simp [go_sem]) (by simp [go_sem])) rfl ⟨rfl, ?_⟩
      repeat (first | exact Below.refl _ _ | refine below_drewN ?_ | refine Below.alloc ?_ (by (try simp only [World.size_alloc]); omega) _)

theorem retBelow {B : Nat} {a w : World} (h : Below B a w) : Below B a w := h

/-- a function's number is called as it stands -/
def Enters (K : FuncId) : Prop := ∀ (args : Array Value) (w : World), Sem.run Try.prog (callFunc K args) w = Result.ok (Next.enter K args) w
/-- a place that a function of the program tells -/
def Places (K : FuncId) (g : Nat → Nat) : Prop := ∀ i : Nat, i < 16 → Pur Try.prog K #[.int .i64 (i : Int)] (.int .i64 (g i : Int)) ∧ g i < 16

set_option maxHeartbeats 400000 in
theorem moved_any (b : Nat → UInt8) (K : FuncId) (g : Nat → Nat) (hE : Enters K) (hK : Places K g) (w : World) : Calls Try.prog 85 #[.agg (blk 16 b), .func (.func K) #[] #[]] w fun e w' => e = .returned (.agg (blk 16 fun i => b (g i))) ∧ Below w.heap.size w w' := by
  have HK := Lib.hid hK; clear hK
  have hE' : ∀ (args : Array Value) (w : World), Sem.run Try.prog (callFunc K args) w = Result.ok (Next.enter K args) w := hE
  have hz := zero16
  go_enter Try.func85, Try.ntmps85
  go_wp2_with fail
  go_loopw [7] (fun i wr => ∃ k n : Nat, k ≤ 16 ∧ i = .int .i64 (k : Int) ∧ wr = (((w.alloc (.cells (blk 16 b) 25)).alloc (.cells (blk 16 fun _ => 0) 25)).alloc (.cells (blk 16 (upTo (fun _ => 0) (fun i => b (g i)) k)) 25)).drewN n) (fun i _ => 16 - (intOf i).toNat)
  case atStart => exact ⟨0, 0, by omega, rfl, by rw [upTo_zero]; rfl⟩
  case round =>
    obtain ⟨k, n, hk, rfl, rfl⟩ := hrel
    by_cases hlt : k < 16
    · obtain ⟨hc, hg⟩ := HK.out k hlt
      have HC := Lib.hid hc; clear hc
      go_wp2_with fail
      refine (HC.out.go _).mono ?_; rintro e w' ⟨rfl, k1, rfl⟩
      go_wp2_with fail
      go_roundw
      case rel => exact ⟨k + 1, n + k1, by omega, by go_num, by rw [← upTo_next]⟩
      case measure => simp [intOf]; omega
    · go_wp2_with fail
      obtain rfl : k = 16 := by omega
      refine bodyPost_ret (results_row rfl _ (w.heap.size + 1) rfl (blk 16 fun i => b (g i)) (by simp [go_sem, upTo_all]) (by simp [go_sem]) (by simp [go_sem]) (by simp [go_sem])) rfl ⟨rfl, ?_⟩
      repeat (first | exact Below.refl _ _ | refine below_drewN ?_ | refine Below.alloc ?_ (by (try simp only [World.size_alloc]); omega) _)

theorem turnAt_int : ∀ i : Nat, i < 16 → ((i : Int) + 4 * ((i : Int) % 4)) % 16 = (Ci.turnAt i : Int) := by decide
theorem unturnAt_int : ∀ i : Nat, i < 16 → ((i : Int) + 12 * ((i : Int) % 4)) % 16 = (Ci.unturnAt i : Int) := by decide

theorem turn1_enters : Enters 86 := fun args w => by simp [go_sem]
theorem turn1_places : Places 86 Ci.turnAt := fun i hi => by
  refine ⟨fun w => ?_, Ci.turnAt_lt i⟩
  have HT := Lib.hid (turnAt_int i hi)
  go_enter Try.func86, Try.ntmps86
  go_wp2_with fail
  go_ret
  exact ⟨by rw [← HT.out]; rfl, 0, rfl⟩
set_option maxHeartbeats 400000 in
theorem turn_any (b : Nat → UInt8) (w : World) : Calls Try.prog 60 #[.agg (blk 16 b)] w fun e w' => e = .returned (.agg (blk 16 (Ci.turn b))) ∧ Below w.heap.size w w' := by
  have hz := zero16
  go_enter Try.func60, Try.ntmps60
  go_wp2_with fail
  refine (moved_any _ _ _ turn1_enters turn1_places _).mono ?_; rintro e w1 ⟨rfl, hw⟩
  have r1 : rowAt w1 (w.heap.size + 1) = blk 16 (fun _ => 0) := (below_rowAt hw (by simp)).trans (by simp [go_sem])
  have r2 : freeRow w1 (w.heap.size + 1) = true := (below_freeRow hw (by simp)).trans (by simp [go_sem])
  have r3 : isRow w1 (w.heap.size + 1) = true := (below_isRow hw (by simp)).trans (by simp [go_sem])
  have HW := Lib.hid hw; clear hw
  go_wp2_with fail
  refine bodyPost_ret (results_row rfl _ (w.heap.size + 1) rfl (blk 16 (Ci.turn b)) (by simp [go_sem, r3]; rfl) (by simp [go_sem]) (by simp [go_sem]) (by simp [go_sem, r3])) rfl ⟨rfl, ?_⟩
  refine below_setRow' ?_ (by omega) _
  exact (((Below.refl _ _).alloc (Nat.le_refl _) _).alloc (by simp) _).trans (HW.out.mono (by simp; omega))

/-- a text that holds the boxes -/
def tabled (s : ByteArray) : Bool := decide (s.size = 256) && (List.range 256).all fun n => s.data[n]? == some (Gf.boxTab.getD n 0)
theorem index_box {P : Program} (t : TypeId) (s : ByteArray) (a : UInt8) (w : World) (ht : P.underlying t = some .string) (hs : tabled s = true) :
    (indexS t (.string s) (.int .u8 (B a))).run P w = .ok (.int .u8 (B (Gf.box a))) w := by
  simp only [tabled, Bool.and_eq_true, decide_eq_true_eq, List.all_eq_true, List.mem_range, beq_iff_eq] at hs
  have h := hs.2 a.toNat a.toNat_lt
  have h0 : 0 ≤ B a := (B_bd a).1
  have h1 : (B a).toNat = a.toNat := by unfold B; exact Int.toNat_natCast _
  have hlt : a.toNat < s.size := by rw [hs.1]; exact a.toNat_lt
  have hg : s[a.toNat]? = some (Gf.boxTab.getD a.toNat 0) := by
    rw [getElem?_pos s a.toNat hlt]
    have h2 : a.toNat < s.data.size := hlt
    rw [Array.getElem?_eq_getElem h2] at h
    exact h
  simp only [indexS, Instr.index, asIntOf, Sem.run_bind, Sem.run_pure, Result.andThen_ok, run_underlying ht, h0, if_true, h1, hg]
  rw [Gf.box_tab]; rfl

set_option maxRecDepth 100000 in
set_option maxHeartbeats 400000 in
theorem cbox_pur (a : UInt8) : Pur Try.prog 62 #[.int .u8 (B a)] (.int .u8 (B (Gf.box a))) := by
  intro w
  go_enter Try.func62, Try.ntmps62
  go_wp2_with fail
  rw [index_box _ _ _ _ Try.underlying9 (by decide +kernel)]
  go_wp2_with fail
  go_ret
  exact ⟨rfl, 0, rfl⟩

theorem cdouble_pur (a : UInt8) : Pur Try.prog 58 #[.int .u8 (B a)] (.int .u8 (B (Gf.dbl a))) := by
  intro w
  obtain ⟨h0, h1⟩ := B_bd a
  go_enter Try.func58, Try.ntmps58
  go_wp2_with fail
  go_ret
  exact ⟨by simp [dbl_walk], 0, rfl⟩

/-- what a function of the program makes of a byte -/
def Makes (K : FuncId) (g : UInt8 → UInt8) : Prop := ∀ x : UInt8, Pur Try.prog K #[.int .u8 (B x)] (.int .u8 (B (g x)))

set_option maxHeartbeats 400000 in
theorem each_any (b : Nat → UInt8) (K : FuncId) (g : UInt8 → UInt8) (hE : Enters K) (hK : Makes K g) (w : World) : Calls Try.prog 61 #[.agg (blk 16 b), .func (.func K) #[] #[]] w fun e w' => e = .returned (.agg (blk 16 (Ci.each g b))) ∧ Below w.heap.size w w' := by
  have HK := Lib.hid hK; clear hK
  have hE' : ∀ (args : Array Value) (w : World), Sem.run Try.prog (callFunc K args) w = Result.ok (Next.enter K args) w := hE
  have hz := zero16
  go_enter Try.func61, Try.ntmps61
  go_wp2_with fail
  go_loopw [8] (fun i wr => ∃ k n : Nat, k ≤ 16 ∧ i = .int .i64 (k : Int) ∧ wr = ((w.alloc (.cells (blk 16 (upTo b (Ci.each g b) k)) 25)).alloc (.cells (blk 16 fun _ => 0) 25)).drewN n) (fun i _ => 16 - (intOf i).toNat)
  case atStart => exact ⟨0, 0, by omega, rfl, by rw [upTo_zero]; rfl⟩
  case round =>
    obtain ⟨k, n, hk, rfl, rfl⟩ := hrel
    by_cases hlt : k < 16
    · have HC := Lib.hid (HK.out (b k))
      go_wp2_with fail
      refine (HC.out.go _).mono ?_; rintro e w' ⟨rfl, k1, rfl⟩
      go_wp2_with fail
      go_roundw
      case rel => exact ⟨k + 1, n + k1, by omega, by go_num, by rw [← upTo_next]; rfl⟩
      case measure => simp [intOf]; omega
    · go_wp2_with fail
      obtain rfl : k = 16 := by omega
      refine bodyPost_ret (results_row rfl _ (w.heap.size + 1) rfl (blk 16 (Ci.each g b)) (by simp [go_sem, upTo_all]) (by simp [go_sem]) (by simp [go_sem]) (by simp [go_sem])) rfl ⟨rfl, ?_⟩
      repeat (first | exact Below.refl _ _ | refine below_drewN ?_ | refine Below.alloc ?_ (by (try simp only [World.size_alloc]); omega) _)

end Go.Proofs.Ytgaecjhghpkcoaa
end

section
namespace Go.Proofs.Ytgaecjhghpkcoaa
open Go.RowKit
attribute [local go_sem] B_xor B_or B_and
attribute [local go_sem] blk_set blk_size blk_get blk_getE upd_same oneCells_blk paste_blk cut_blk szOf
attribute [local go_sem high] paste_all cut_head
attribute [local go_sem] rowAt_alloc rowAt_drew rowAt_drewN isRow_alloc isRow_drew isRow_drewN freeRow_alloc freeRow_end freeRow_drew freeRow_drewN
attribute [local go_sem] setRow_alloc setRow_drew setRow_drewN setCell_drewN alloc_drewN rowAt_put isRow_setRow freeRow_put
attribute [local go_sem ↓] loadS_in storeS_in indexS_in copyS_in
attribute [local go_sem] loadS_row loadS_one storeS_row storeS_one indexS_blk copyS_rows run_equalIn_blk same_refl arrayAt_row

def cmix (c : Nat → UInt8) : Nat → UInt8 := fun i => c i ^^^ (c 0 ^^^ c 1 ^^^ c 2 ^^^ c 3) ^^^ Gf.dbl (c i ^^^ c (on4 i 1))
theorem cmix_mix (c : Nat → UInt8) : blk 4 (cmix c) = blk 4 (Gf.mix c) := blk_congr fun i hi => by
  have m2 : ∀ x, Gf.mul 2 x = Gf.dbl x := by apply Gf.all256; decide +kernel
  have h : ∀ a b c d : UInt8, a ^^^ (a ^^^ b ^^^ c ^^^ d) ^^^ (Gf.dbl a ^^^ Gf.dbl b) = Gf.dbl a ^^^ (Gf.dbl b ^^^ b) ^^^ c ^^^ d := fun a b c d => by
    rw [show a ^^^ (a ^^^ b ^^^ c ^^^ d) ^^^ (Gf.dbl a ^^^ Gf.dbl b) = (a ^^^ a) ^^^ (Gf.dbl a ^^^ (Gf.dbl b ^^^ b) ^^^ c ^^^ d) from by ac_rfl, UInt8.xor_self, UInt8.zero_xor]
  have hc := Ci.four_cases hi
  unfold cmix Gf.mix on4
  rw [m2, Gf.mul3, Gf.dbl_xor]
  rcases hc with rfl | rfl | rfl | rfl
  · exact h _ _ _ _
  · rw [← h]; simp only [Nat.reduceAdd, Nat.reduceMod]; ac_rfl
  · rw [← h]; simp only [Nat.reduceAdd, Nat.reduceMod]; ac_rfl
  · rw [← h]; simp only [Nat.reduceAdd, Nat.reduceMod]; ac_rfl

set_option maxHeartbeats 1000000 in
theorem cipherMix_any (c : Nat → UInt8) (w : World) : Calls Try.prog 64 #[.agg (blk 4 c)] w fun e w' => e = .returned (.agg (blk 4 (Gf.mix c))) ∧ Below w.heap.size w w' := by
  have hz := zero4
  go_enter Try.func64, Try.ntmps64
  go_wp2_with fail
  go_loopw [19] (fun i wr => ∃ m n : Nat, m ≤ 4 ∧ i = .int .i64 (m : Int) ∧ wr = (((w.alloc (.cells (blk 4 c) 117)).alloc (.cells (blk 4 fun _ => 0) 117)).alloc (.cells (blk 4 (upTo (fun _ => 0) (cmix c) m)) 117)).drewN n) (fun i _ => 4 - (intOf i).toNat)
  case atStart => exact ⟨0, 0, by omega, rfl, by rw [upTo_zero]; rfl⟩
  case round =>
    obtain ⟨m, n, hm, rfl, rfl⟩ := hrel
    by_cases hlt : m < 4
    · have b1 := on4_lt m 1
      have w1 : IntKind.i64.wrap ((m : Int) + 1) = (m : Int) + 1 := IntWalk.i64_in _ (by omega)
      have t1 : ((m : Int) + 1).tmod 4 = (on4 m 1 : Int) := on4_tmod m 1
      have t2 : ((m : Int) + 1) % 4 = (on4 m 1 : Int) := by rw [← t1, Int.tmod_eq_emod_of_nonneg (by omega)]
      have v1 : IntKind.i64.wrap (on4 m 1 : Int) = (on4 m 1 : Int) := IntWalk.i64_in _ (by omega)
      have c1 : (on4 m 1 : Int) < 4 := by omega
      go_wp2_with fail
      refine ((cdouble_pur _).go _).mono ?_; rintro e w' ⟨rfl, k1, rfl⟩
      go_wp2_with fail
      go_roundw
      case rel => exact ⟨m + 1, n + k1, by omega, by go_num, by rw [← upTo_next]; rfl⟩
      case measure => simp [intOf]; omega
    · go_wp2_with fail
      obtain rfl : m = 4 := by omega
      refine bodyPost_ret (results_row rfl _ (w.heap.size + 1) rfl (blk 4 (Gf.mix c)) (by simp [go_sem, upTo_all, cmix_mix]) (by simp [go_sem]) (by simp [go_sem]) (by simp [go_sem])) rfl ⟨rfl, ?_⟩
      repeat (first | exact Below.refl _ _ | refine below_drewN ?_ | refine Below.alloc ?_ (by (try simp only [World.size_alloc]); omega) _)

/-- what a function of the program makes of a column -/
def Turns (K : FuncId) (m : (Nat → UInt8) → Nat → UInt8) : Prop := ∀ (c : Nat → UInt8) (w : World), Calls Try.prog K #[.agg (blk 4 c)] w fun e w' => e = .returned (.agg (blk 4 (m c))) ∧ Below w.heap.size w w'
def Congr4 (m : (Nat → UInt8) → Nat → UInt8) : Prop := ∀ c d : Nat → UInt8, (∀ i, i < 4 → c i = d i) → ∀ i, i < 4 → m c i = m d i

theorem cols_next (m : (Nat → UInt8) → Nat → UInt8) (hm : Congr4 m) (b : Nat → UInt8) (k : Nat) :
    blk 16 (cpy (upTo b (Ci.columns m b) (4 * k)) (4 * k) (m fun j => upTo b (Ci.columns m b) (4 * k) (4 * k + j)) 0 4) = blk 16 (upTo b (Ci.columns m b) (4 * (k + 1))) := blk_congr fun i hi => by
  unfold cpy
  by_cases h : 4 * k ≤ i ∧ i < 4 * k + 4
  · rw [if_pos h, hm _ (Ci.col b (i / 4)) (fun j hj => by unfold upTo Ci.col; rw [if_neg (by omega)]; congr 1; omega) _ (by omega)]
    unfold upTo
    rw [if_pos (by omega)]
    unfold Ci.columns
    congr 1; omega
  · rw [if_neg h]
    unfold upTo
    by_cases h2 : i < 4 * k
    · rw [if_pos h2, if_pos (by omega)]
    · rw [if_neg h2, if_neg (by omega)]

def ColsAt (w : World) (m : (Nat → UInt8) → Nat → UInt8) (b : Nat → UInt8) (k : Nat) (wr : World) : Prop :=
  rowAt wr w.heap.size = blk 16 (upTo b (Ci.columns m b) (4 * k)) ∧ freeRow wr w.heap.size = true ∧ isRow wr w.heap.size = true ∧ rowAt wr (w.heap.size + 1) = blk 16 (fun _ => 0) ∧ freeRow wr (w.heap.size + 1) = true ∧ isRow wr (w.heap.size + 1) = true ∧
    w.heap.size + 2 ≤ wr.heap.size ∧ Below w.heap.size w wr

set_option maxRecDepth 100000 in
set_option maxHeartbeats 2000000 in
theorem columns_any (b : Nat → UInt8) (K : FuncId) (m : (Nat → UInt8) → Nat → UInt8) (hm : Congr4 m) (hE : Enters K) (hK : Turns K m) (w : World) : Calls Try.prog 63 #[.agg (blk 16 b), .func (.func K) #[] #[]] w fun e w' => e = .returned (.agg (blk 16 (Ci.columns m b))) ∧ Below w.heap.size w w' := by
  have HK := Lib.hid hK; clear hK
  have HM := Lib.hid hm; clear hm
  have hE' : ∀ (args : Array Value) (w : World), Sem.run Try.prog (callFunc K args) w = Result.ok (Next.enter K args) w := hE
  have hz := zero16
  have hz4 := zero4
  go_enter Try.func63, Try.ntmps63
  go_wp2_with fail
  go_loopw [5] (fun i wr => ∃ k : Nat, k ≤ 4 ∧ i = .int .i64 (4 * (k : Int)) ∧ Hid (ColsAt w m b k wr)) (fun i _ => 16 - (intOf i).toNat)
  case atStart =>
    refine ⟨0, by omega, rfl, Lib.hid ⟨?_, ?_, ?_, ?_, ?_, ?_, ?_, ?_⟩⟩
    · simp [go_sem, upTo_zero]
    all_goals first | (simp [go_sem]; done) | exact ((Below.refl _ _).alloc (Nat.le_refl _) _).alloc (by simp) _
  case round =>
    obtain ⟨k, hk, rfl, HR⟩ := hrel
    by_cases hlt : k < 4
    · have hc := Ci.four_cases hlt
      have hcn := cols_next m HM.out b k
      rcases hc with rfl | rfl | rfl | rfl
      all_goals
        obtain ⟨r1, r2, r3, r4, r5, r6, r7, hB⟩ := HR.out
        simp only [Nat.reduceMul, Nat.reduceAdd, Nat.zero_add] at r1 hcn
        have HB := Lib.hid hB; clear hB
        have HC := Lib.hid hcn; clear hcn
        go_wp2_with fail
        refine (HK.out _ _).mono ?_; rintro e w1 ⟨rfl, hw⟩
        have hB := HB.out; clear HB
        have s1 := hw.1
        have s2 := hw.size
        have y1 := (below_rowAt hw (g := w.heap.size) (by omega)).trans r1
        have y2 := (below_freeRow hw (g := w.heap.size) (by omega)).trans r2
        have y3 := (below_isRow hw (g := w.heap.size) (by omega)).trans r3
        have y4 := (below_rowAt hw (g := w.heap.size + 1) (by omega)).trans r4
        have y5 := (below_freeRow hw (g := w.heap.size + 1) (by omega)).trans r5
        have y6 := (below_isRow hw (g := w.heap.size + 1) (by omega)).trans r6
        have hB' := Lib.hid (hB.trans (hw.mono (by omega)))
        have n1 : (w.heap.size = w1.heap.size) = False := by simp; omega
        have n2 : (w.heap.size + 1 = w1.heap.size) = False := by simp; omega
        have n3 : (w1.heap.size = w.heap.size) = False := by simp; omega
        have n4 : (w1.heap.size = w.heap.size + 1) = False := by simp; omega
        have n5 : (w1.heap.size + 1 = w.heap.size + 1) = False := by simp; omega
        clear hw hB
        go_wp2_with fail
        go_region
        have hcn := HC.out; clear HC
        go_wp2_with fail
        refine ⟨⟨_ + 1, hlt, rfl, Lib.hid ⟨?_, ?_, ?_, ?_, ?_, ?_, ?_, ?_⟩⟩, by simp [intOf]⟩
        · simp [go_sem, n1, y3]
        · simp [go_sem, n1, y1, y2]
        · simp [go_sem, n1, y3]
        · simp [go_sem, n2, y4]
        · simp [go_sem, n2, y1, y5]
        · simp [go_sem, n2, y6]
        · simp [go_sem]; omega
        · exact ((below_setRow' hB'.out (Nat.le_refl _) _).alloc (by simp [go_sem]; omega) _).drew
    · obtain rfl : k = 4 := by omega
      obtain ⟨r1, r2, r3, r4, r5, r6, r7, hB⟩ := HR.out
      have ha : blk 16 (upTo b (Ci.columns m b) (4 * 4)) = blk 16 (Ci.columns m b) := blk_congr fun i hi => by unfold upTo; rw [if_pos (by omega)]
      rw [ha] at r1; clear ha
      have HB := Lib.hid hB; clear hB
      go_wp2_with fail
      refine bodyPost_ret (results_row rfl _ (w.heap.size + 1) rfl (blk 16 (Ci.columns m b)) ?_ ?_ ?_ ?_) rfl ⟨rfl, ?_⟩
      · simp [go_sem, r6]
      · simp [go_sem]
      · simp [go_sem]
      · simp [go_sem, r6]
      · exact below_setRow' HB.out (by omega) _
end Go.Proofs.Ytgaecjhghpkcoaa
end

section
namespace Go.Proofs.Ytgaecjhghpkcoaa
open Go.RowKit
attribute [local go_sem] B_xor B_or B_and
attribute [local go_sem] blk_set blk_size blk_get blk_getE upd_same oneCells_blk paste_blk cut_blk szOf
attribute [local go_sem high] paste_all cut_head
attribute [local go_sem] rowAt_alloc rowAt_drew rowAt_drewN isRow_alloc isRow_drew isRow_drewN freeRow_alloc freeRow_end freeRow_drew freeRow_drewN
attribute [local go_sem] setRow_alloc setRow_drew setRow_drewN setCell_drewN alloc_drewN rowAt_put isRow_setRow freeRow_put
attribute [local go_sem ↓] loadS_in storeS_in indexS_in copyS_in
attribute [local go_sem] loadS_row loadS_one storeS_row storeS_one indexS_blk copyS_rows run_equalIn_blk same_refl arrayAt_row

set_option maxHeartbeats 400000 in
theorem word_any (b : Nat → UInt8) (n : Nat) (hn : n < 4) (w : World) : Calls Try.prog 84 #[.agg (blk 16 b), .int .i64 (n : Int)] w fun e w' => e = .returned (.agg (blk 4 (Ci.col b n))) ∧ Below w.heap.size w w' := by
  have hz := zero4
  rcases Ci.four_cases hn with rfl | rfl | rfl | rfl <;>
  · go_enter Try.func84, Try.ntmps84
    go_wp2_with fail
    refine bodyPost_ret (results_row rfl _ (w.heap.size + 1) rfl (blk 4 (Ci.col b _)) (by simp [go_sem]; rfl) (by simp [go_sem]) (by simp [go_sem]) (by simp [go_sem])) rfl ⟨rfl, ?_⟩
    repeat (first | exact Below.refl _ _ | refine below_drewN ?_ | refine Below.alloc ?_ (by (try simp only [World.size_alloc]); omega) _)

theorem setCell_row {w : World} (g i : Nat) (v : Value) (h : isRow w g = true) : w.setCell ⟨g, i, none⟩ v = w.setRow g ((rowAt w g).setIfInBounds i v) := by
  obtain ⟨cs, t, fr, hh, hr⟩ := isRow_cells h
  rw [hr]
  unfold World.setCell World.setRow
  congr 1
  apply Array.ext_getElem?
  intro n
  simp only [Array.getElem?_modify]
  by_cases hn : g = n
  · subst hn; simp [hh]
  · simp [hn]
theorem blk_ne (n : Nat) (f : Nat → UInt8) : (blk (n + 1) f = #[]) = False := by
  simp only [eq_iff_iff, iff_false]
  intro h
  have := congrArg Array.size h
  rw [blk_size] at this
  simp at this
attribute [local go_sem] cell_row frozen_row setCell_row blk_ne
def at4 (n i : Nat) : Nat := 4 * n + i
/-- the word that is put to the n-th -/
def lead (b : Nat → UInt8) (m : UInt8) : Nat → Nat → UInt8
  | 0 => Ci.first b m
  | n + 1 => fun i => Ci.nextAt b (Ci.first b m) n i
theorem next_at (b : Nat → UInt8) (m : UInt8) (n i : Nat) (hi : i < 4) : Ci.next b m (at4 n i) = b (at4 n i) ^^^ lead b m n i := by
  unfold Ci.next at4
  rw [show (4 * n + i) / 4 = n by omega, show (4 * n + i) % 4 = i by omega]
  cases n with
  | zero => simp [Ci.nextAt, lead]
  | succ n => rfl
theorem lead_next (b : Nat → UInt8) (m : UInt8) (n : Nat) : blk 4 (Ci.col (upTo b (Ci.next b m) (at4 n 4)) n) = blk 4 (lead b m (n + 1)) := blk_congr fun i hi => by
  unfold Ci.col upTo at4
  rw [if_pos (by omega)]
  unfold Ci.next
  rw [show (4 * n + i) / 4 = n by omega, show (4 * n + i) % 4 = i by omega]; rfl

def NextAt (w : World) (g : Nat) (b : Nat → UInt8) (m : UInt8) (n i : Nat) (wr : World) : Prop :=
  rowAt wr w.heap.size = blk 16 (upTo b (Ci.next b m) (at4 n i)) ∧ freeRow wr w.heap.size = true ∧ isRow wr w.heap.size = true ∧ rowAt wr (w.heap.size + 1) = blk 16 (fun _ => 0) ∧ freeRow wr (w.heap.size + 1) = true ∧ isRow wr (w.heap.size + 1) = true ∧
    rowAt wr g = blk 4 (lead b m n) ∧ freeRow wr g = true ∧ isRow wr g = true ∧ g < wr.heap.size ∧ w.heap.size + 2 ≤ g ∧ Below w.heap.size w wr

theorem upd_first (b : Nat → UInt8) (m : UInt8) : blk 4 (upd (upd (upd (upd (fun _ => 0) 0 (Gf.box (Ci.col b 3 1) ^^^ m)) 1 (Gf.box (Ci.col b 3 2))) 2 (Gf.box (Ci.col b 3 3))) 3 (Gf.box (Ci.col b 3 0))) = blk 4 (lead b m 0) := blk_congr fun i hi => by
  rcases Ci.four_cases hi with rfl | rfl | rfl | rfl <;> rfl

/-- a region's end, whatever order was drawn -/
def CutPost (A : Act) (W : World) : Exit → Act → World → Prop
  | .normal, a, w => a = A ∧ ∃ k, w = W.drewN k
  | _, _, _ => False
theorem region_cut {P : Program} {id : Nat} {ops : Array Oper} {b : Bool} {Q : Exit → Act → World → Prop} {a : Act} {w : World} (A : Act) (W : World) (h : (Code.region id ops b).wp P (CutPost A W) a w) (k : ∀ n, Q .normal A (W.drewN n)) : (Code.region id ops b).wp P Q a w :=
  Code.wp_mono (fun e a' w' (hh : CutPost A W e a' w') => by cases e with | normal => obtain ⟨rfl, n, rfl⟩ := hh; exact k n | _ => exact False.elim hh) h

set_option maxRecDepth 100000 in
set_option maxHeartbeats 1000000 in
theorem next_any (b : Nat → UInt8) (m : UInt8) (w : World) : Calls Try.prog 57 #[.agg (blk 16 b), .int .u8 (B m)] w fun e w' => e = .returned (.agg (blk 16 (Ci.next b m))) ∧ Below w.heap.size w w' := by
  have hz := zero16
  have hz4 := zero4
  have hbf := upd_first b m
  go_enter Try.func57, Try.ntmps57
  go_wp2_with fail
  refine (word_any _ 3 (by decide) _).mono ?_; rintro e w1 ⟨rfl, hw⟩
  have s1 := hw.1
  have s2 := hw.size
  simp only [World.size_alloc] at s2
  have y1 : rowAt w1 w.heap.size = blk 16 b := (below_rowAt hw (g := w.heap.size) (by simp; omega)).trans (by simp [go_sem])
  have y2 : freeRow w1 w.heap.size = true := (below_freeRow hw (g := w.heap.size) (by simp; omega)).trans (by simp [go_sem])
  have y3 : isRow w1 w.heap.size = true := (below_isRow hw (g := w.heap.size) (by simp; omega)).trans (by simp [go_sem])
  have y4 : rowAt w1 (w.heap.size + 1) = blk 16 fun _ => 0 := (below_rowAt hw (g := w.heap.size + 1) (by simp)).trans (by simp [go_sem])
  have y5 : freeRow w1 (w.heap.size + 1) = true := (below_freeRow hw (g := w.heap.size + 1) (by simp)).trans (by simp [go_sem])
  have y6 : isRow w1 (w.heap.size + 1) = true := (below_isRow hw (g := w.heap.size + 1) (by simp)).trans (by simp [go_sem])
  have hB := Lib.hid ((((Below.refl _ _).alloc (Nat.le_refl _) _).alloc (by simp) _).trans (hw.mono (by simp; omega)))
  clear hw
  go_wp2_with fail
  apply region_cut (W := (w1.alloc (.cells (blk 4 (Ci.col b 3)) 117)).alloc (.cells (blk 4 (lead b m 0)) 117))
  case h =>
    go_region_held3 (fun w' => rowAt w' w1.heap.size = blk 4 (Ci.col b 3) ∧ isRow w' w1.heap.size = true) (simp [go_sem])
      (first | (go_at_call 62; refine ((cbox_pur _).go _).mono ?_; rintro e w' ⟨rfl, k1, rfl⟩))
    all_goals exact ⟨rfl, _, rfl⟩
  case k =>
    intro k
    clear hbf
    have hst : NextAt w (w1.heap.size + 1) b m 0 0 (((w1.alloc (.cells (blk 4 (Ci.col b 3)) 117)).alloc (.cells (blk 4 (lead b m 0)) 117)).drewN k) := by
      have h0 : blk 16 (upTo b (Ci.next b m) (at4 0 0)) = blk 16 b := upTo_zero _ _ _
      have m1 : (w.heap.size = w1.heap.size) = False := by simp; omega
      have m2 : (w.heap.size = w1.heap.size + 1) = False := by simp; omega
      have m3 : (w.heap.size + 1 = w1.heap.size) = False := by simp; omega
      have m4 : (w.heap.size + 1 = w1.heap.size + 1) = False := by simp; omega
      refine ⟨?_, ?_, ?_, ?_, ?_, ?_, ?_, ?_, ?_, ?_, ?_, ?_⟩
      all_goals first | (simp [go_sem, *]; done) | skip
      · simp; omega
      · exact below_drewN ((hB.out.alloc (by omega) _).alloc (by simp; omega) _)
    have HN := Lib.hid hst; clear hst hB y1 y2 y3 y4 y5 y6 s1
    generalize ((w1.alloc (.cells (blk 4 (Ci.col b 3)) 117)).alloc (.cells (blk 4 (lead b m 0)) 117)).drewN k = w2 at HN ⊢
    generalize w1.heap.size + 1 = g at HN ⊢
    go_wp2_with fail
    go_loopw [26] (fun i wr => ∃ n : Nat, n ≤ 4 ∧ i = .int .i64 (n : Int) ∧ Hid (NextAt w g b m n 0 wr)) (fun i _ => 4 - (intOf i).toNat)
    case atStart => exact ⟨0, by omega, rfl, HN⟩
    case round =>
      clear HN
      obtain ⟨n, hn, rfl, HR⟩ := hrel
      by_cases hlt : n < 4
      · have hd : decide ((n : Int) < 4) = true := by simp; omega
        go_wp2_with fail
        go_loopw [29] (fun i wr => ∃ j : Nat, j ≤ 4 ∧ i = .int .i64 (j : Int) ∧ Hid (NextAt w g b m n j wr)) (fun i _ => 4 - (intOf i).toNat)
        case atStart => exact ⟨0, by omega, rfl, HR⟩
        case round =>
          clear HR
          obtain ⟨j, hj, rfl, HJ⟩ := hrel
          by_cases hjt : j < 4
          · obtain ⟨r1, r2, r3, r4, r5, r6, r7, r8, r9, r10, r11, hB⟩ := HJ.out
            have HB := Lib.hid hB; clear hB HJ
            have v1 : IntKind.i64.wrap (4 * (n : Int)) = 4 * (n : Int) := IntWalk.i64_in _ (by omega)
            have v2 : IntKind.i64.wrap (4 * (n : Int) + (j : Int)) = (at4 n j : Int) := by
              rw [IntWalk.i64_in _ (by omega)]; unfold at4; omega
            have v3 : at4 n j < 16 := by unfold at4; omega
            have v4 : (at4 n j : Int) < 16 := by omega
            have hat := upTo_at b (Ci.next b m) (at4 n j)
            have hnx := next_at b m n j hjt
            go_wp2_with fail
            go_region
            have z : Hid (NextAt w g b m n (j + 1) ((wr.setRow w.heap.size (blk 16 (upd (upTo b (Ci.next b m) (at4 n j)) (at4 n j) (b (at4 n j) ^^^ lead b m n j)))).drew)) := by
              have m1 : (g = w.heap.size) = False := by simp; omega
              have e1 : blk 16 (upd (upTo b (Ci.next b m) (at4 n j)) (at4 n j) (b (at4 n j) ^^^ lead b m n j)) = blk 16 (upTo b (Ci.next b m) (at4 n (j + 1))) := by rw [← hnx, upTo_next]; rfl
              refine Lib.hid ⟨?_, ?_, ?_, ?_, ?_, ?_, ?_, ?_, ?_, ?_, ?_, ?_⟩
              all_goals first | (simp [go_sem, *]; done) | skip
              · exact (below_setRow' HB.out (Nat.le_refl _) _).drew
            go_wp2_with fail
            go_roundw
            case rel => exact ⟨j + 1, by omega, by go_num, z⟩
            case measure => simp [intOf]; omega
          · obtain rfl : j = 4 := by omega
            obtain ⟨r1, r2, r3, r4, r5, r6, r7, r8, r9, r10, r11, hB⟩ := HJ.out
            have HB := Lib.hid hB; clear hB HJ
            go_wp2_with fail
            refine (word_any _ n hlt _).mono ?_; rintro e w3 ⟨rfl, hw⟩
            have s1 := hw.1
            have s3 := hw.size
            have y1 := (below_rowAt hw (g := w.heap.size) (by omega)).trans r1
            have y2 := (below_freeRow hw (g := w.heap.size) (by omega)).trans r2
            have y3 := (below_isRow hw (g := w.heap.size) (by omega)).trans r3
            have y4 := (below_rowAt hw (g := w.heap.size + 1) (by omega)).trans r4
            have y5 := (below_freeRow hw (g := w.heap.size + 1) (by omega)).trans r5
            have y6 := (below_isRow hw (g := w.heap.size + 1) (by omega)).trans r6
            have y7 := (below_rowAt hw (g := g) (by omega)).trans r7
            have y8 := (below_freeRow hw (g := g) (by omega)).trans r8
            have y9 := (below_isRow hw (g := g) (by omega)).trans r9
            have hB' := Lib.hid (HB.out.trans (hw.mono (by omega)))
            clear hw HB r1 r2 r3 r4 r5 r6 r7 r8 r9
            go_wp2_with fail
            have m1 : (g = w.heap.size) = False := by simp; omega
            have m2 : (w.heap.size = g) = False := by simp; omega
            have m3 : (w.heap.size + 1 = g) = False := by simp; omega
            have e1 := lead_next b m n
            have e2 : at4 (n + 1) 0 = at4 n 4 := rfl
            refine ⟨⟨n + 1, by omega, by go_num, Lib.hid ⟨?_, ?_, ?_, ?_, ?_, ?_, ?_, ?_, ?_, ?_, ?_, ?_⟩⟩, by simp [intOf]; omega⟩
            all_goals first | (simp [go_sem, *]; done) | skip
            · simp [go_sem]; omega
            · exact below_setRow' hB'.out (by omega) _
      · obtain rfl : n = 4 := by omega
        obtain ⟨r1, r2, r3, r4, r5, r6, r7, r8, r9, r10, r11, hB⟩ := HR.out
        have ha : blk 16 (upTo b (Ci.next b m) (at4 4 0)) = blk 16 (Ci.next b m) := upTo_all _ _ _
        rw [ha] at r1
        have HB := Lib.hid hB; clear hB HR
        go_wp2_with fail
        refine bodyPost_ret (results_row rfl _ (w.heap.size + 1) rfl (blk 16 (Ci.next b m)) ?_ ?_ ?_ ?_) rfl ⟨rfl, ?_⟩
        · simp [go_sem, r6]
        · simp [go_sem]
        · simp [go_sem]
        · simp [go_sem, r6]
        · exact below_setRow' HB.out (by omega) _
end Go.Proofs.Ytgaecjhghpkcoaa
end

section
namespace Go.Proofs.Ytgaecjhghpkcoaa
open Go.RowKit
attribute [local go_sem] B_xor B_or B_and
attribute [local go_sem] blk_set blk_size blk_get blk_getE upd_same oneCells_blk paste_blk cut_blk szOf
attribute [local go_sem high] paste_all cut_head
attribute [local go_sem] rowAt_alloc rowAt_drew rowAt_drewN isRow_alloc isRow_drew isRow_drewN freeRow_alloc freeRow_end freeRow_drew freeRow_drewN
attribute [local go_sem] setRow_alloc setRow_drew setRow_drewN setCell_drewN alloc_drewN rowAt_put isRow_setRow freeRow_put
attribute [local go_sem ↓] loadS_in storeS_in indexS_in copyS_in
attribute [local go_sem] loadS_row loadS_one storeS_row storeS_one indexS_blk copyS_rows run_equalIn_blk same_refl arrayAt_row

theorem zero176 : Try.zeroCells74 = blk 176 (fun _ => 0) := by kernel_rfl

theorem rounds_get (f key : Nat → UInt8) (k : Nat) : blk 16 (fun j => upTo f (Ci.rounds key) (16 * (k + 1)) (k * 16 + j)) = blk 16 (Ci.expand key k) := blk_congr fun i hi => by
  unfold upTo Ci.rounds
  rw [if_pos (by omega), show (k * 16 + i) / 16 = k by omega, show (k * 16 + i) % 16 = i by omega]
theorem rounds_put (f key : Nat → UInt8) (k : Nat) : blk 176 (cpy (upTo f (Ci.rounds key) (16 * (k + 1))) ((k + 1) * 16) (Ci.next (Ci.expand key k) (Ci.mark k)) 0 16) = blk 176 (upTo f (Ci.rounds key) (16 * (k + 1 + 1))) := blk_congr fun i hi => by
  unfold cpy upTo
  by_cases h : (k + 1) * 16 ≤ i ∧ i < (k + 1) * 16 + 16
  · rw [if_pos h, if_pos (by omega)]
    unfold Ci.rounds
    rw [show i / 16 = k + 1 by omega]
    show Ci.next (Ci.expand key k) (Ci.mark k) _ = Ci.next (Ci.expand key k) (Ci.mark k) _
    congr 1; omega
  · rw [if_neg h]
    by_cases h2 : i < 16 * (k + 1)
    · rw [if_pos h2, if_pos (by omega)]
    · rw [if_neg h2, if_neg (by omega)]

def ExpAt (w : World) (key : Nat → UInt8) (k : Nat) (wr : World) : Prop :=
  rowAt wr (w.heap.size + 1 + 1) = blk 176 (upTo (fun _ => 0) (Ci.rounds key) (16 * (k + 1))) ∧ freeRow wr (w.heap.size + 1 + 1) = true ∧ isRow wr (w.heap.size + 1 + 1) = true ∧ rowAt wr (w.heap.size + 1) = blk 176 (fun _ => 0) ∧ freeRow wr (w.heap.size + 1) = true ∧ isRow wr (w.heap.size + 1) = true ∧
    w.heap.size + 3 ≤ wr.heap.size ∧ Below w.heap.size w wr

theorem rounds_first (key : Nat → UInt8) : blk 176 (cpy (fun _ => 0) 0 key 0 16) = blk 176 (upTo (fun _ => 0) (Ci.rounds key) (16 * (0 + 1))) := blk_congr fun i hi => by
  unfold cpy upTo
  by_cases h : 0 ≤ i ∧ i < 0 + 16
  · rw [if_pos h, if_pos (by omega)]
    unfold Ci.rounds
    rw [show i / 16 = 0 by omega, show i % 16 = i by omega, show 0 + (i - 0) = i by omega]; rfl
  · rw [if_neg h, if_neg (by omega)]

set_option maxRecDepth 100000 in
set_option maxHeartbeats 1000000 in
theorem expand_any (key : Nat → UInt8) (w : World) : Calls Try.prog 33 #[.agg (blk 16 key)] w fun e w' => e = .returned (.agg (blk 176 (Ci.rounds key))) ∧ Below w.heap.size w w' := by
  have hz := zero176
  have hf := rounds_first key
  go_enter Try.func33, Try.ntmps33
  go_wp2_with fail
  go_loopw [4, 5] (fun m i wr => ∃ k : Nat, k ≤ 10 ∧ i = .int .i64 ((k : Int) + 1) ∧ m = .int .u8 (B (Ci.mark k)) ∧ Hid (ExpAt w key k wr)) (fun _ i _ => 11 - (intOf i).toNat)
  case atStart =>
    refine ⟨0, by omega, rfl, rfl, Lib.hid ⟨?_, ?_, ?_, ?_, ?_, ?_, ?_, ?_⟩⟩
    all_goals first | (simp [go_sem, *]; done) | skip
    exact (((Below.refl _ _).alloc (Nat.le_refl _) _).alloc (by simp) _).alloc (by simp; omega) _
  case round =>
    clear hf
    obtain ⟨k, hk, rfl, rfl, HR⟩ := hrel
    obtain ⟨r1, r2, r3, r4, r5, r6, r7, hB⟩ := HR.out
    have HB := Lib.hid hB; clear hB HR
    by_cases hlt : k < 10
    · have v1 : IntKind.i64.wrap ((k : Int) + 1 - 1) = (k : Int) := by rw [IntWalk.i64_in _ (by omega)]; omega
      have v2 : IntKind.i64.wrap ((k : Int) + 1 + 1) = ((k : Int) + 1 + 1) := IntWalk.i64_in _ (by omega)
      have hd : ((k : Int) + 1 ≤ 10) := by omega
      have b1 : k * 16 + 16 ≤ 176 := by omega
      have b2 : (k + 1) * 16 + 16 ≤ 176 := by omega
      have hg := rounds_get (fun _ => 0) key k
      have hp := rounds_put (fun _ => 0) key k
      go_wp2_with fail
      refine (next_any _ _ _).mono ?_; rintro e w3 ⟨rfl, hw⟩
      have s1 := hw.1
      have s3 := hw.size
      have y1 := (below_rowAt hw (g := w.heap.size + 1 + 1) (by omega)).trans r1
      have y2 := (below_freeRow hw (g := w.heap.size + 1 + 1) (by omega)).trans r2
      have y3 := (below_isRow hw (g := w.heap.size + 1 + 1) (by omega)).trans r3
      have y4 := (below_rowAt hw (g := w.heap.size + 1) (by omega)).trans r4
      have y5 := (below_freeRow hw (g := w.heap.size + 1) (by omega)).trans r5
      have y6 := (below_isRow hw (g := w.heap.size + 1) (by omega)).trans r6
      have hB' := Lib.hid (HB.out.trans (hw.mono (by omega)))
      clear hw HB r1 r2 r3 r4 r5 r6 hg
      go_wp2_with fail
      refine ((cdouble_pur _).go _).mono ?_; rintro e w4 ⟨rfl, k1, rfl⟩
      go_wp2_with fail
      refine ⟨⟨k + 1, by omega, by go_num, rfl, Lib.hid ⟨?_, ?_, ?_, ?_, ?_, ?_, ?_, ?_⟩⟩, by simp [intOf]; omega⟩
      all_goals first | (simp [go_sem, *]; done) | skip
      · simp [go_sem]; omega
      · exact below_drewN (below_setRow' hB'.out (by omega) _)
    · obtain rfl : k = 10 := by omega
      have ha : blk 176 (upTo (fun _ => 0) (Ci.rounds key) (16 * (10 + 1))) = blk 176 (Ci.rounds key) := upTo_all _ _ _
      rw [ha] at r1; clear ha
      go_wp2_with fail
      refine bodyPost_ret (results_row rfl _ (w.heap.size + 1) rfl (blk 176 (Ci.rounds key)) ?_ ?_ ?_ ?_) rfl ⟨rfl, ?_⟩
      · simp [go_sem, r6]
      · simp [go_sem]
      · simp [go_sem]
      · simp [go_sem, r6]
      · exact below_setRow' HB.out (by omega) _
end Go.Proofs.Ytgaecjhghpkcoaa
end

section
namespace Go.Proofs.Ytgaecjhghpkcoaa
open Go.RowKit
attribute [local go_sem] B_xor B_or B_and
attribute [local go_sem] blk_set blk_size blk_get blk_getE upd_same oneCells_blk paste_blk cut_blk szOf
attribute [local go_sem high] paste_all cut_head
attribute [local go_sem] rowAt_alloc rowAt_drew rowAt_drewN isRow_alloc isRow_drew isRow_drewN freeRow_alloc freeRow_end freeRow_drew freeRow_drewN
attribute [local go_sem] setRow_alloc setRow_drew setRow_drewN setCell_drewN alloc_drewN rowAt_put isRow_setRow freeRow_put
attribute [local go_sem ↓] loadS_in storeS_in indexS_in copyS_in
attribute [local go_sem] loadS_row loadS_one storeS_row storeS_one indexS_blk copyS_rows run_equalIn_blk same_refl arrayAt_row

theorem cmix_turns : Turns 64 Gf.mix := cipherMix_any
theorem cmix_enters : Enters 64 := fun args w => by simp [go_sem]
theorem cbox_enters : Enters 62 := fun args w => by simp [go_sem]
theorem mix_congr4 : Congr4 Gf.mix := fun _ _ h i hi => Ci.mix_congr h i hi

/-- the rows of Seal's and Open's own -/
def SealAt (w : World) (r x : Nat → UInt8) (wr : World) : Prop :=
  rowAt wr w.heap.size = blk 176 r ∧ isRow wr w.heap.size = true ∧ rowAt wr (w.heap.size + 1) = blk 16 x ∧ freeRow wr (w.heap.size + 1) = true ∧ isRow wr (w.heap.size + 1) = true ∧
    rowAt wr (w.heap.size + 1 + 1) = blk 16 (fun _ => 0) ∧ freeRow wr (w.heap.size + 1 + 1) = true ∧ isRow wr (w.heap.size + 1 + 1) = true ∧ w.heap.size + 3 ≤ wr.heap.size ∧ Below w.heap.size w wr
theorem sealAt_call {w a b : World} {r x : Nat → UInt8} (h : SealAt w r x a) (hb : Below a.heap.size a b) : SealAt w r x b := by
  obtain ⟨r1, r2, r3, r4, r5, r6, r7, r8, r9, hB⟩ := h
  exact ⟨(below_rowAt hb (by omega)).trans r1, (below_isRow hb (by omega)).trans r2, (below_rowAt hb (by omega)).trans r3, (below_freeRow hb (by omega)).trans r4, (below_isRow hb (by omega)).trans r5,
    (below_rowAt hb (by omega)).trans r6, (below_freeRow hb (by omega)).trans r7, (below_isRow hb (by omega)).trans r8, Nat.le_trans r9 hb.size, hB.trans (hb.mono (by omega))⟩
theorem sealAt_drew {w a : World} {r x : Nat → UInt8} (h : SealAt w r x a) : SealAt w r x a.drew := by
  obtain ⟨r1, r2, r3, r4, r5, r6, r7, r8, r9, hB⟩ := h
  exact ⟨r1, r2, r3, r4, r5, r6, r7, r8, r9, hB.drew⟩

theorem sealAt_set {w a : World} {r x : Nat → UInt8} (y : Nat → UInt8) (h : SealAt w r x a) : SealAt w r y (a.setRow (w.heap.size + 1) (blk 16 y)) := by
  obtain ⟨r1, r2, r3, r4, r5, r6, r7, r8, r9, hB⟩ := h
  have m1 : (w.heap.size = w.heap.size + 1) = False := by simp
  have m2 : (w.heap.size + 1 + 1 = w.heap.size + 1) = False := by simp
  refine ⟨?_, ?_, ?_, ?_, ?_, ?_, ?_, ?_, ?_, ?_⟩
  all_goals first | (simp [go_sem, *]; done) | skip
  · exact below_setRow' hB (by omega) _
theorem rd_zero (r : Nat → UInt8) : blk 16 r = blk 16 (Ci.rd r 0) := blk_congr fun i _ => by unfold Ci.rd; congr 1; omega
theorem rd_at (r : Nat → UInt8) (n : Nat) : (fun j => r (n * 16 + j)) = Ci.rd r n := by funext i; unfold Ci.rd; congr 1; omega


set_option maxRecDepth 100000 in
set_option maxHeartbeats 1000000 in
theorem seal_any (r b : Nat → UInt8) (w : World) : Calls Try.prog 34 #[.agg (blk 176 r), .agg (blk 16 b)] w fun e w' => e = .returned (.agg (blk 16 (Ci.sealB r b))) ∧ Below w.heap.size w w' := by
  have hz := zero16
  have hr0 := rd_zero r
  go_enter Try.func34, Try.ntmps34
  go_wp2_with fail
  have hst : SealAt w r b (((w.alloc (.cells (blk 176 r) 74)).alloc (.cells (blk 16 b) 25)).alloc (.cells (blk 16 fun _ => 0) 25)) := by
    refine ⟨?_, ?_, ?_, ?_, ?_, ?_, ?_, ?_, ?_, ?_⟩
    all_goals first | exact (((Below.refl _ _).alloc (Nat.le_refl _) _).alloc (by simp) _).alloc (by simp; omega) _ | (simp [go_sem]; done) | (simp [go_sem]; omega)
  refine (xor_any _ _ _).mono ?_; rintro e w1 ⟨rfl, hw⟩
  have hs := sealAt_call hst hw
  have HS := Lib.hid hs
  have s1 := hw.1
  obtain ⟨r1, r2, r3, r4, r5, r6, r7, r8, r9, hB⟩ := hs
  clear hst hw hB
  go_wp2_with fail
  have HS := Lib.hid (sealAt_set (Ci.sealTo r b 0) HS.out)
  clear r1 r2 r3 r4 r5 r6 r7 r8 s1
  go_loopw [5] (fun i wr => ∃ k : Nat, k ≤ 9 ∧ i = .int .i64 ((k : Int) + 1) ∧ Hid (SealAt w r (Ci.sealTo r b k) wr)) (fun i _ => 10 - (intOf i).toNat)
  case atStart => exact ⟨0, by omega, rfl, HS⟩
  case round =>
    clear HS hr0
    obtain ⟨k, hk, rfl, HR⟩ := hrel
    by_cases hlt : k < 9
    · have v2 : IntKind.i64.wrap ((k : Int) + 1 + 1) = ((k : Int) + 1 + 1) := IntWalk.i64_in _ (by omega)
      have hd : ((k : Int) + 1 < 10) := by omega
      have hd2 : ((k : Int) + 1 < 11) := by omega
      have hd3 : (0 ≤ (k : Int) + 1) := by omega
      have b2 : (k + 1) * 16 + 16 ≤ 176 := by omega
      have hrd := rd_at r (k + 1)
      go_wp2_with fail
      refine wp_region_tail (C := SealAt w r (Ci.sealTo r b k)) 8 (by kernel_rfl) (by kernel_rfl) (sealAt_drew HR.out) ?_
      simp only [List.take_succ_cons, List.take_zero, List.drop_succ_cons, List.drop_zero]
      (apply head_step rfl
       focus
         intro w0 hC
         have hC' := Lib.hid hC
         obtain ⟨r1, r2, r3, r4, r5, r6, r7, r8, r9, hB⟩ := hC
         have HB := Lib.hid hB; clear hB
         go_simp
         have hC := hC'.out
         (first
            | with_reducible rfl
            | ((first
                | refine (each_any _ _ _ cbox_enters cbox_pur _).mono ?_
                | refine (turn_any _ _).mono ?_
                | refine (columns_any _ _ _ mix_congr4 cmix_enters cmix_turns _).mono ?_
                | refine (xor_any _ _ _).mono ?_)
               rintro e w' ⟨rfl, hw⟩
               exact ⟨rfl, sealAt_call (by assumption) hw⟩))
       try simp only [Act.put, List.setIfInBounds_toArray, List.set])
      (apply head_step rfl
       focus
         intro w0 hC
         have hC' := Lib.hid hC
         obtain ⟨r1, r2, r3, r4, r5, r6, r7, r8, r9, hB⟩ := hC
         have HB := Lib.hid hB; clear hB
         go_simp
         have hC := hC'.out
         (first
            | with_reducible rfl
            | ((first
                | refine (each_any _ _ _ cbox_enters cbox_pur _).mono ?_
                | refine (turn_any _ _).mono ?_
                | refine (columns_any _ _ _ mix_congr4 cmix_enters cmix_turns _).mono ?_
                | refine (xor_any _ _ _).mono ?_)
               rintro e w' ⟨rfl, hw⟩
               exact ⟨rfl, sealAt_call (by assumption) hw⟩))
       try simp only [Act.put, List.setIfInBounds_toArray, List.set])
      (apply head_step rfl
       focus
         intro w0 hC
         have hC' := Lib.hid hC
         obtain ⟨r1, r2, r3, r4, r5, r6, r7, r8, r9, hB⟩ := hC
         have HB := Lib.hid hB; clear hB
         go_simp
         have hC := hC'.out
         (first
            | with_reducible rfl
            | ((first
                | refine (each_any _ _ _ cbox_enters cbox_pur _).mono ?_
                | refine (turn_any _ _).mono ?_
                | refine (columns_any _ _ _ mix_congr4 cmix_enters cmix_turns _).mono ?_
                | refine (xor_any _ _ _).mono ?_)
               rintro e w' ⟨rfl, hw⟩
               exact ⟨rfl, sealAt_call (by assumption) hw⟩))
       try simp only [Act.put, List.setIfInBounds_toArray, List.set])
      (apply head_step rfl
       focus
         intro w0 hC
         have hC' := Lib.hid hC
         obtain ⟨r1, r2, r3, r4, r5, r6, r7, r8, r9, hB⟩ := hC
         have HB := Lib.hid hB; clear hB
         go_simp
         have hC := hC'.out
         (first
            | with_reducible rfl
            | ((first
                | refine (each_any _ _ _ cbox_enters cbox_pur _).mono ?_
                | refine (turn_any _ _).mono ?_
                | refine (columns_any _ _ _ mix_congr4 cmix_enters cmix_turns _).mono ?_
                | refine (xor_any _ _ _).mono ?_)
               rintro e w' ⟨rfl, hw⟩
               exact ⟨rfl, sealAt_call (by assumption) hw⟩))
       try simp only [Act.put, List.setIfInBounds_toArray, List.set])
      (apply head_step rfl
       focus
         intro w0 hC
         have hC' := Lib.hid hC
         obtain ⟨r1, r2, r3, r4, r5, r6, r7, r8, r9, hB⟩ := hC
         have HB := Lib.hid hB; clear hB
         go_simp
         have hC := hC'.out
         (first
            | with_reducible rfl
            | ((first
                | refine (each_any _ _ _ cbox_enters cbox_pur _).mono ?_
                | refine (turn_any _ _).mono ?_
                | refine (columns_any _ _ _ mix_congr4 cmix_enters cmix_turns _).mono ?_
                | refine (xor_any _ _ _).mono ?_)
               rintro e w' ⟨rfl, hw⟩
               exact ⟨rfl, sealAt_call (by assumption) hw⟩))
       try simp only [Act.put, List.setIfInBounds_toArray, List.set])
      (apply head_step rfl
       focus
         intro w0 hC
         have hC' := Lib.hid hC
         obtain ⟨r1, r2, r3, r4, r5, r6, r7, r8, r9, hB⟩ := hC
         have HB := Lib.hid hB; clear hB
         go_simp
         have hC := hC'.out
         (first
            | with_reducible rfl
            | ((first
                | refine (each_any _ _ _ cbox_enters cbox_pur _).mono ?_
                | refine (turn_any _ _).mono ?_
                | refine (columns_any _ _ _ mix_congr4 cmix_enters cmix_turns _).mono ?_
                | refine (xor_any _ _ _).mono ?_)
               rintro e w' ⟨rfl, hw⟩
               exact ⟨rfl, sealAt_call (by assumption) hw⟩))
       try simp only [Act.put, List.setIfInBounds_toArray, List.set])
      (apply head_step rfl
       focus
         intro w0 hC
         have hC' := Lib.hid hC
         obtain ⟨r1, r2, r3, r4, r5, r6, r7, r8, r9, hB⟩ := hC
         have HB := Lib.hid hB; clear hB
         go_simp
         have hC := hC'.out
         (first
            | with_reducible rfl
            | ((first
                | refine (each_any _ _ _ cbox_enters cbox_pur _).mono ?_
                | refine (turn_any _ _).mono ?_
                | refine (columns_any _ _ _ mix_congr4 cmix_enters cmix_turns _).mono ?_
                | refine (xor_any _ _ _).mono ?_)
               rintro e w' ⟨rfl, hw⟩
               exact ⟨rfl, sealAt_call (by assumption) hw⟩))
       try simp only [Act.put, List.setIfInBounds_toArray, List.set])
      (apply head_step rfl
       focus
         intro w0 hC
         have hC' := Lib.hid hC
         obtain ⟨r1, r2, r3, r4, r5, r6, r7, r8, r9, hB⟩ := hC
         have HB := Lib.hid hB; clear hB
         go_simp
         have hC := hC'.out
         (first
            | with_reducible rfl
            | ((first
                | refine (each_any _ _ _ cbox_enters cbox_pur _).mono ?_
                | refine (turn_any _ _).mono ?_
                | refine (columns_any _ _ _ mix_congr4 cmix_enters cmix_turns _).mono ?_
                | refine (xor_any _ _ _).mono ?_)
               rintro e w' ⟨rfl, hw⟩
               exact ⟨rfl, sealAt_call (by assumption) hw⟩))
       try simp only [Act.put, List.setIfInBounds_toArray, List.set])
      refine wpQuiet_nil ?_
      intro w3 hC
      have HC := Lib.hid hC
      have s1 := hC.2.2.2.2.2.2.2.2.2.os
      obtain ⟨r1, r2, r3, r4, r5, r6, r7, r8, r9, hB⟩ := hC
      clear hB
      go_wp2_with fail
      exact ⟨⟨k + 1, by omega, by go_num, Lib.hid (sealAt_set _ HC.out)⟩, by simp [intOf]; omega⟩
    · obtain rfl : k = 9 := by omega
      have hC := HR.out
      obtain ⟨r1, r2, r3, r4, r5, r6, r7, r8, r9, hB⟩ := hC
      clear hB
      have hrd := rd_at r 10
      go_wp2_with fail
      refine wp_region_tail (C := SealAt w r (Ci.sealTo r b 9)) 6 (by kernel_rfl) (by kernel_rfl) (sealAt_drew HR.out) ?_
      simp only [List.take_succ_cons, List.take_zero, List.drop_succ_cons, List.drop_zero]
      clear r1 r2 r3 r4 r5 r6 r7 r8 r9
      (apply head_step rfl
       focus
         intro w0 hC
         have hC' := Lib.hid hC
         obtain ⟨r1, r2, r3, r4, r5, r6, r7, r8, r9, hB⟩ := hC
         have HB := Lib.hid hB; clear hB
         go_simp
         have hC := hC'.out
         (first
            | with_reducible rfl
            | ((first
                | refine (each_any _ _ _ cbox_enters cbox_pur _).mono ?_
                | refine (turn_any _ _).mono ?_
                | refine (columns_any _ _ _ mix_congr4 cmix_enters cmix_turns _).mono ?_
                | refine (xor_any _ _ _).mono ?_)
               rintro e w' ⟨rfl, hw⟩
               exact ⟨rfl, sealAt_call (by assumption) hw⟩))
       try simp only [Act.put, List.setIfInBounds_toArray, List.set])
      (apply head_step rfl
       focus
         intro w0 hC
         have hC' := Lib.hid hC
         obtain ⟨r1, r2, r3, r4, r5, r6, r7, r8, r9, hB⟩ := hC
         have HB := Lib.hid hB; clear hB
         go_simp
         have hC := hC'.out
         (first
            | with_reducible rfl
            | ((first
                | refine (each_any _ _ _ cbox_enters cbox_pur _).mono ?_
                | refine (turn_any _ _).mono ?_
                | refine (columns_any _ _ _ mix_congr4 cmix_enters cmix_turns _).mono ?_
                | refine (xor_any _ _ _).mono ?_)
               rintro e w' ⟨rfl, hw⟩
               exact ⟨rfl, sealAt_call (by assumption) hw⟩))
       try simp only [Act.put, List.setIfInBounds_toArray, List.set])
      (apply head_step rfl
       focus
         intro w0 hC
         have hC' := Lib.hid hC
         obtain ⟨r1, r2, r3, r4, r5, r6, r7, r8, r9, hB⟩ := hC
         have HB := Lib.hid hB; clear hB
         go_simp
         have hC := hC'.out
         (first
            | with_reducible rfl
            | ((first
                | refine (each_any _ _ _ cbox_enters cbox_pur _).mono ?_
                | refine (turn_any _ _).mono ?_
                | refine (columns_any _ _ _ mix_congr4 cmix_enters cmix_turns _).mono ?_
                | refine (xor_any _ _ _).mono ?_)
               rintro e w' ⟨rfl, hw⟩
               exact ⟨rfl, sealAt_call (by assumption) hw⟩))
       try simp only [Act.put, List.setIfInBounds_toArray, List.set])
      (apply head_step rfl
       focus
         intro w0 hC
         have hC' := Lib.hid hC
         obtain ⟨r1, r2, r3, r4, r5, r6, r7, r8, r9, hB⟩ := hC
         have HB := Lib.hid hB; clear hB
         go_simp
         have hC := hC'.out
         (first
            | with_reducible rfl
            | ((first
                | refine (each_any _ _ _ cbox_enters cbox_pur _).mono ?_
                | refine (turn_any _ _).mono ?_
                | refine (columns_any _ _ _ mix_congr4 cmix_enters cmix_turns _).mono ?_
                | refine (xor_any _ _ _).mono ?_)
               rintro e w' ⟨rfl, hw⟩
               exact ⟨rfl, sealAt_call (by assumption) hw⟩))
       try simp only [Act.put, List.setIfInBounds_toArray, List.set])
      (apply head_step rfl
       focus
         intro w0 hC
         have hC' := Lib.hid hC
         obtain ⟨r1, r2, r3, r4, r5, r6, r7, r8, r9, hB⟩ := hC
         have HB := Lib.hid hB; clear hB
         go_simp
         have hC := hC'.out
         (first
            | with_reducible rfl
            | ((first
                | refine (each_any _ _ _ cbox_enters cbox_pur _).mono ?_
                | refine (turn_any _ _).mono ?_
                | refine (columns_any _ _ _ mix_congr4 cmix_enters cmix_turns _).mono ?_
                | refine (xor_any _ _ _).mono ?_)
               rintro e w' ⟨rfl, hw⟩
               exact ⟨rfl, sealAt_call (by assumption) hw⟩))
       try simp only [Act.put, List.setIfInBounds_toArray, List.set])
      (apply head_step rfl
       focus
         intro w0 hC
         have hC' := Lib.hid hC
         obtain ⟨r1, r2, r3, r4, r5, r6, r7, r8, r9, hB⟩ := hC
         have HB := Lib.hid hB; clear hB
         go_simp
         have hC := hC'.out
         (first
            | with_reducible rfl
            | ((first
                | refine (each_any _ _ _ cbox_enters cbox_pur _).mono ?_
                | refine (turn_any _ _).mono ?_
                | refine (columns_any _ _ _ mix_congr4 cmix_enters cmix_turns _).mono ?_
                | refine (xor_any _ _ _).mono ?_)
               rintro e w' ⟨rfl, hw⟩
               exact ⟨rfl, sealAt_call (by assumption) hw⟩))
       try simp only [Act.put, List.setIfInBounds_toArray, List.set])
      refine wpQuiet_nil ?_
      intro w3 hC
      have HC := Lib.hid hC
      have s1 := hC.2.2.2.2.2.2.2.2.2.os
      obtain ⟨r1, r2, r3, r4, r5, r6, r7, r8, r9, hB⟩ := hC
      clear hB
      go_wp2_with fail
      refine bodyPost_ret (results_row rfl _ (w.heap.size + 1 + 1) rfl (blk 16 (Ci.sealB r b)) ?_ ?_ ?_ ?_) rfl ⟨rfl, ?_⟩
      · simp [go_sem, r8]; rfl
      · simp [go_sem]
      · simp [go_sem]
      · simp [go_sem, r8]
      · exact below_setRow' HC.out.2.2.2.2.2.2.2.2.2 (by omega) _
end Go.Proofs.Ytgaecjhghpkcoaa
end

section
namespace Go.Proofs.Ytgaecjhghpkcoaa
open Go.RowKit
attribute [local go_sem] B_xor B_or B_and
attribute [local go_sem] blk_set blk_size blk_get blk_getE upd_same oneCells_blk paste_blk cut_blk szOf
attribute [local go_sem high] paste_all cut_head
attribute [local go_sem] rowAt_alloc rowAt_drew rowAt_drewN isRow_alloc isRow_drew isRow_drewN freeRow_alloc freeRow_end freeRow_drew freeRow_drewN
attribute [local go_sem] setRow_alloc setRow_drew setRow_drewN setCell_drewN alloc_drewN rowAt_put isRow_setRow freeRow_put
attribute [local go_sem ↓] loadS_in storeS_in indexS_in copyS_in
attribute [local go_sem] loadS_row loadS_one storeS_row storeS_one indexS_blk copyS_rows run_equalIn_blk same_refl arrayAt_row

theorem unmix_congr4 : Congr4 Gf.unmix := fun _ _ h i hi => Ci.unmix_congr h i hi


end Go.Proofs.Ytgaecjhghpkcoaa
end

section
namespace Go.Proofs.Ytgaecjhghpkcoaa
open Go.RowKit
attribute [local go_sem] B_xor B_or B_and
attribute [local go_sem] blk_set blk_size blk_get blk_getE upd_same oneCells_blk paste_blk cut_blk szOf
attribute [local go_sem high] paste_all cut_head
attribute [local go_sem] rowAt_alloc rowAt_drew rowAt_drewN isRow_alloc isRow_drew isRow_drewN freeRow_alloc freeRow_end freeRow_drew freeRow_drewN
attribute [local go_sem] setRow_alloc setRow_drew setRow_drewN setCell_drewN alloc_drewN rowAt_put isRow_setRow freeRow_put
attribute [local go_sem ↓] loadS_in storeS_in indexS_in copyS_in
attribute [local go_sem] loadS_row loadS_one storeS_row storeS_one indexS_blk copyS_rows run_equalIn_blk same_refl arrayAt_row
section
variable {P : Program} {w : World}
/-- the results of a function: one that lies in a row, and a slot -/
theorem results_pair {fn : Func} {p q : Tmp} {ty : TypeId} (h : fn.results = #[.cell p ty, .tmp q]) (tmps : Array Value) (g : Nat) (hp : tmps.getD p undef = .pointer (some ⟨g, 0, none⟩)) (cs : Array Value) (hc : rowAt w g = cs)
    (ha : (isAgg ty).run P w = .ok true w) (hs : (sizeOf ty).run P w = .ok cs.size w) (hr : isRow w g = true) (v : Value) (hq : tmps.getD q undef = v) :
    (results fn tmps).run P w = .ok (.tuple #[.agg cs, v]) w := by
  have hp' : tmps[p]?.getD undef = .pointer (some ⟨g, 0, none⟩) := by simpa using hp
  have hq' : tmps[q]?.getD undef = v := by simpa using hq
  have hl := run_loadCells_row (P := P) g 0 cs.size hr (by rw [hc]; omega)
  rw [hc] at hl
  simp only [Nat.zero_add, Array.extract_size] at hl
  simp [results, h, hp', hq', asAddr, loadVar, Sem.run_bind, ha, hs, hl]
end

/-- a text as a row -/
def ofText (s : ByteArray) : Nat → UInt8 := fun i => s.data.getD i 0
theorem text_cells (s : ByteArray) : ((s.extract 0 s.size).data.map fun b => Value.int .u8 (b.toNat : Int)) = blk s.size (ofText s) := by
  have he : s.extract 0 s.size = s := by simp
  rw [he]
  apply Array.ext
  · rw [blk_size]; simp
  · intro i h1 h2
    have hi : i < s.data.size := by simpa using h1
    have hb : (blk s.size (ofText s))[i]? = some (.int .u8 (B (ofText s i))) := blk_get _ _ _ hi
    rw [Array.getElem?_eq_getElem h2] at hb
    rw [Option.some.inj hb]
    simp [ofText, B, Array.getElem?_eq_getElem hi]
theorem copyS_text {P : Program} {w : World} (dT sT ty : TypeId) (g dCap n : Nat) (s : ByteArray) (hn : s.size = n) (hu : P.underlying dT = some (.slice (P.elem dT))) (hs : (sizeOf (P.elem dT)).run P w = .ok 1 w)
    (hr : freeRow w g = true) (hg : n ≤ (rowAt w g).size) :
    (copyS #[dT, sT] ty #[.slice (some ⟨g, 0, none⟩) n dCap, .string s]).run P w = .ok (goInt (n : Int)) (w.setRow g (paste (rowAt w g) 0 (blk n (ofText s)))) := by
  subst hn
  have hst := run_storeCells_row (P := P) g 0 (blk s.size (ofText s)) hr (by rw [blk_size]; omega) (oneCells_blk _ _)
  have hc := text_cells s
  have hm : Nat.min s.size s.size = s.size := Nat.min_self _
  simp only [copyS, Builtin.copy_, List.getElem?_toArray, List.getElem?_cons_zero, List.getElem?_cons_succ, Sem.run_bind, run_underlying hu, Result.andThen_ok, Builtin.lenOf, Sem.run_pure, hs, Builtin.firstCells, hm, hc, hst]

end Go.Proofs.Ytgaecjhghpkcoaa
end
