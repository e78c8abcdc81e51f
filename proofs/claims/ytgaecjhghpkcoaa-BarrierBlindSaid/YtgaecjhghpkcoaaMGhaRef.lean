/- padlocklaw08.awake returns true. * GhashField returns true at every three blocks. No condition. * GhashPowers returns true at every three blocks, every two bytes, every text. No condition. * Rows of bools, and the reference's product of two blocks in plain Lean: coefficient by coefficient, then the multiples off. No condition. * The reference's coefficient, row of coefficients and product. No condition. * The reference's product of two blocks. No condition. * GhashMuls returns true at every two blocks, every number. No condition. * The reference's texts folded in. No condition but that texts are shorter than 2 to 40. * The reference's number in eight bytes. Numbers below 2 to 62. * The reference's sum of two texts; GhashSums returns true. Texts shorter than 2 to 40 in the reference's contract; no condition on the statement. * Texts that part at one byte have sums that part, if the block that all is multiplied by is not zero. Plain; texts shorter than 2 to 40. -/
import Derived.Test.YtgaecjhghpkcoaaMGha
import Derived.Test.YtgaecjhghpkcoaaMGround
import Derived.Test.YtgaecjhghpkcoaaMCip
section
namespace Go.Proofs.Ytgaecjhghpkcoaa
open Go.RowKit
attribute [local go_sem] B_xor B_or B_and
attribute [local go_sem] blk_set blk_size blk_get blk_getE upd_same oneCells_blk paste_blk cut_blk szOf
attribute [local go_sem high] paste_all cut_head
attribute [local go_sem] rowAt_alloc rowAt_drew rowAt_drewN isRow_alloc isRow_drew isRow_drewN freeRow_alloc freeRow_end freeRow_drew freeRow_drewN
attribute [local go_sem] setRow_alloc setRow_drew setRow_drewN setCell_drewN alloc_drewN rowAt_put isRow_setRow freeRow_put
attribute [local go_sem ↓] loadS_in storeS_in indexS_in copyS_in
attribute [local go_sem] loadS_row loadS_one storeS_row storeS_one indexS_blk copyS_rows run_equalIn_blk same_refl arrayAt_row
attribute [local go_sem] cell_row frozen_row st_setCell st_blk_ne stepAt stepUpon
attribute [local go_sem high] run_eql_blk run_neq_blk
attribute [local go_sem] U_xor U_or U_and U_and1 U_tail U_neg U_half U_shr U_shl8 U_shl63 U_of U_to pr_size pr_get0 pr_get1 pr_getE0 pr_getE1 pr_set0 pr_set1 pr_ne oneCells_pr paste_pr cut_pr
attribute [local go_sem] wide_size wide_get0 wide_get1 wide_getE0 wide_getE1 wide_ne oneCells_wide paste_wide cut_wide

theorem pw_xx : ∀ n, Gh.pw Gh.xx n = Gh.dblN n Gh.one
  | 0 => rfl
  | n + 1 => by
    show Gh.mul (Gh.pw Gh.xx n) Gh.xx = Gh.dbl (Gh.dblN n Gh.one)
    rw [pw_xx n, Gh.mul_comm (Gh.dblN_lt Gh.ok_one n) Gh.ok_xx, Gh.xx_mul (Gh.dblN_lt Gh.ok_one n)]
theorem same_of {x y : Nat} (h : x = y) : same 16 (unum x) (unum y) = true := by subst h; exact same_refl _ _
theorem awake_facts : ∃ o X Y Z : Nat → UInt8, unum Gh.one = o ∧
    (blk 16 fun _ => 0).setIfInBounds 0 (.int .u8 128) = blk 16 o ∧ (blk 16 fun _ => 0).setIfInBounds 0 (.int .u8 64) = blk 16 X ∧ (blk 16 fun _ => 0).setIfInBounds 0 (.int .u8 32) = blk 16 Y ∧ (blk 16 fun _ => 0).setIfInBounds 0 (.int .u8 225) = blk 16 Z ∧
    same 16 (mulB X X) Y = true ∧ same 16 (mulB o Y) Y = true ∧ same 16 (sumB X ⟨#[]⟩ ⟨#[]⟩) (fun _ => 0) = true ∧ bitB o 0 = true ∧ bitB o 1 = false ∧ same 16 (powB X 128) Z = true := by
  have e64 : ((64 : UInt8).toNat * 2 ^ 120) = Gh.xx := by decide +kernel
  have nX : num (unum Gh.xx) = Gh.xx := num_unum Gh.ok_xx
  have nO : num (unum Gh.one) = Gh.one := num_unum Gh.ok_one
  have hY : Gh.Ok ((32 : UInt8).toNat * 2 ^ 120) := lead_ok 32
  refine ⟨unum Gh.one, unum Gh.xx, unum ((32 : UInt8).toNat * 2 ^ 120), unum ((225 : UInt8).toNat * 2 ^ 120), rfl, lead_lit 128 128 rfl, by rw [← e64]; exact lead_lit 64 64 rfl, lead_lit 32 32 rfl, lead_lit 225 225 rfl, ?_, ?_, ?_, ?_, ?_, ?_⟩
  · unfold mulB
    rw [nX]
    refine same_of ?_
    rw [Gh.xx_mul Gh.ok_xx]; decide +kernel
  · unfold mulB
    rw [nO, num_unum hY, Gh.one_mul hY]
    exact same_refl _ _
  · have h0 : sumN (num (unum Gh.xx)) ⟨#[]⟩ ⟨#[]⟩ = 0 := by
      rw [nX]
      show Gh.mul (0 ^^^ lens ⟨#[]⟩ ⟨#[]⟩) Gh.xx = 0
      have : lens ⟨#[]⟩ ⟨#[]⟩ = 0 := rfl
      rw [this]; exact Gh.zero_mul _
    unfold sumB
    rw [h0, same_iff]
    intro i _
    simp [unum, byteN]
  · unfold bitB; rw [nO]; decide +kernel
  · unfold bitB; rw [nO]; decide +kernel
  · unfold powB
    rw [nX, pw_xx]
    refine same_of ?_
    decide +kernel
end Go.Proofs.Ytgaecjhghpkcoaa
end

section
namespace Go.Proofs.Ytgaecjhghpkcoaa
open Go.RowKit
attribute [local go_sem] B_xor B_or B_and
attribute [local go_sem] blk_set blk_size blk_get blk_getE upd_same oneCells_blk paste_blk cut_blk szOf
attribute [local go_sem high] paste_all cut_head
attribute [local go_sem] rowAt_alloc rowAt_drew rowAt_drewN isRow_alloc isRow_drew isRow_drewN freeRow_alloc freeRow_end freeRow_drew freeRow_drewN
attribute [local go_sem] setRow_alloc setRow_drew setRow_drewN setCell_drewN alloc_drewN rowAt_put isRow_setRow freeRow_put
attribute [local go_sem ↓] loadS_in storeS_in indexS_in copyS_in
attribute [local go_sem] loadS_row loadS_one storeS_row storeS_one indexS_blk copyS_rows run_equalIn_blk same_refl arrayAt_row
attribute [local go_sem] cell_row frozen_row st_setCell st_blk_ne stepAt stepUpon
attribute [local go_sem high] run_eql_blk run_neq_blk

/-! ### sums of blocks as numbers -/
theorem cat_xor (x y p q : Nat) (hp : p < 256) (hq : q < 256) : (x * 256 + p) ^^^ (y * 256 + q) = (x ^^^ y) * 256 + (p ^^^ q) := by
  have h1 := Nat.xor_div_two_pow (a := x * 256 + p) (b := y * 256 + q) (n := 8)
  have h2 := Nat.xor_mod_two_pow (a := x * 256 + p) (b := y * 256 + q) (n := 8)
  rw [show (x * 256 + p) / 2 ^ 8 = x by omega, show (y * 256 + q) / 2 ^ 8 = y by omega] at h1
  rw [show (x * 256 + p) % 2 ^ 8 = p by omega, show (y * 256 + q) % 2 ^ 8 = q by omega] at h2
  have h3 := Nat.div_add_mod ((x * 256 + p) ^^^ (y * 256 + q)) (2 ^ 8)
  rw [h1, h2] at h3
  omega
theorem numTo_xor (a b : Nat → UInt8) : ∀ k, numTo (Ci.xorB a b) k = numTo a k ^^^ numTo b k
  | 0 => by simp [numTo]
  | k + 1 => by
    simp only [numTo]
    rw [numTo_xor a b k, cat_xor _ _ _ _ (a k).toNat_lt (b k).toNat_lt]
    unfold Ci.xorB
    rw [UInt8.toNat_xor]
theorem num_xor (a b : Nat → UInt8) : num (Ci.xorB a b) = num a ^^^ num b := numTo_xor a b 16
theorem same_num (a b : Nat → UInt8) : same 16 a b = decide (num a = num b) := by
  rw [Bool.eq_iff_iff, same_iff, decide_eq_true_eq]
  exact ⟨fun h => numTo_congr h, fun h i hi => num_inj h i hi⟩
theorem same_num_of {a b : Nat → UInt8} (h : num a = num b) : same 16 a b = true := by rw [same_num]; exact decide_eq_true h
theorem num_zero : num (fun _ => 0) = 0 := by decide
theorem mulB_zero (a b : Nat → UInt8) : same 16 (mulB a b) (fun _ => 0) = (same 16 a (fun _ => 0) || same 16 b (fun _ => 0)) := by
  rw [same_num, same_num, same_num, num_mulB, num_zero, Bool.eq_iff_iff, Bool.or_eq_true, decide_eq_true_eq, decide_eq_true_eq, decide_eq_true_eq]
  exact Gh.mul_eq_zero (num_lt a) (num_lt b)

end Go.Proofs.Ytgaecjhghpkcoaa
end

section
namespace Go.Proofs.Ytgaecjhghpkcoaa
open Go.RowKit
attribute [local go_sem] B_xor B_or B_and
attribute [local go_sem] blk_set blk_size blk_get blk_getE upd_same oneCells_blk paste_blk cut_blk szOf
attribute [local go_sem high] paste_all cut_head
attribute [local go_sem] rowAt_alloc rowAt_drew rowAt_drewN isRow_alloc isRow_drew isRow_drewN freeRow_alloc freeRow_end freeRow_drew freeRow_drewN
attribute [local go_sem] setRow_alloc setRow_drew setRow_drewN setCell_drewN alloc_drewN rowAt_put isRow_setRow freeRow_put
attribute [local go_sem ↓] loadS_in storeS_in indexS_in copyS_in
attribute [local go_sem] loadS_row loadS_one storeS_row storeS_one indexS_blk copyS_rows run_equalIn_blk same_refl arrayAt_row
attribute [local go_sem] cell_row frozen_row st_setCell st_blk_ne stepAt stepUpon
attribute [local go_sem high] run_eql_blk run_neq_blk
attribute [local go_sem] U_xor U_or U_and U_and1 U_tail U_neg U_half U_shr U_shl8 U_shl63 U_of U_to pr_size pr_get0 pr_get1 pr_getE0 pr_getE1 pr_set0 pr_set1 pr_ne oneCells_pr paste_pr cut_pr
attribute [local go_sem] wide_size wide_get0 wide_get1 wide_getE0 wide_getE1 wide_ne oneCells_wide paste_wide cut_wide
attribute [local go_sem] size_wide agg_wide wide_build

/-! ### texts in numbers -/
theorem nums_append : ∀ (n : Nat) (l m : List UInt8), l.length = 16 * n → nums (l ++ m) = nums l ++ nums m
  | 0, l, m, h => by
    obtain rfl : l = [] := List.length_eq_zero_iff.1 (by omega)
    rfl
  | n + 1, l, m, h => by
    have hl : l ≠ [] := fun e => by rw [e] at h; simp at h
    have hlm : l ++ m ≠ [] := fun e => hl (List.append_eq_nil_iff.1 e).1
    rw [nums_cons _ hlm, nums_cons _ hl]
    have hd : (l ++ m).drop 16 = l.drop 16 ++ m := List.drop_append_of_le_length (by omega)
    rw [hd, nums_append n (l.drop 16) m (by rw [List.length_drop]; omega)]
    have e : num (fun i => (l ++ m).getD i 0) = num (fun i => l.getD i 0) := numTo_congr fun i hi => by
      rw [List.getD_eq_getElem?_getD, List.getD_eq_getElem?_getD, List.getElem?_append_left (by omega)]
    rw [e, List.cons_append]
theorem nums_all (l : List UInt8) : ∀ c ∈ nums l, Gh.Ok c := nums_ok _ _
theorem nums_length : ∀ (n : Nat) (l : List UInt8), l.length ≤ n → (nums l).length = (l.length + 15) / 16
  | 0, l, h => by
    obtain rfl : l = [] := List.length_eq_zero_iff.1 (by omega)
    rfl
  | n + 1, l, h => by
    by_cases hl : l = []
    · subst hl; rfl
    · have h1 : 0 < l.length := List.length_pos_iff.2 hl
      rw [nums_cons l hl, List.length_cons, nums_length n (l.drop 16) (by rw [List.length_drop]; omega), List.length_drop]
      omega
theorem txt_take (s : ByteArray) (n : Nat) : txt (s.extract 0 n) = (txt s).take n := by
  unfold txt
  rw [ByteArray.data_extract, Array.toList_extract, List.extract_eq_take_drop]
  simp
theorem num_foldB (h s : Nat → UInt8) (t : ByteArray) : num (foldB h s t) = Gh.fold (num h) (num s) (nums (txt t)) := num_unum (fold_ok _ _ _ (num_lt s))
theorem num_powB (h : Nat → UInt8) (n : Nat) : num (powB h n) = Gh.pw (num h) n := num_unum (Gh.pw_lt n)
theorem fold_split (h s : Nat → UInt8) (t : ByteArray) (c : Nat) (hc : c % 16 = 0) (hl : c ≤ t.size) : same 16 (foldB h (foldB h s (t.extract 0 c)) (t.extract c t.size)) (foldB h s t) = true := same_num_of (by
  rw [num_foldB, num_foldB, num_foldB, ← Gh.fold_append, txt_take, txt_drop]
  rw [← nums_append (c / 16) _ _ (by rw [List.length_take, txt_size]; omega), List.take_append_drop])
theorem fold_none (h s : Nat → UInt8) : same 16 (foldB h s ⟨#[]⟩) s = true := same_num_of (by rw [num_foldB]; rfl)
theorem fold_two (h x y : Nat → UInt8) (t : ByteArray) : same 16 (Ci.xorB (foldB h x t) (foldB h y t)) (mulB (Ci.xorB x y) (powB h ((t.size + 15) / 16))) = true := same_num_of (by
  rw [num_mulB, num_xor, num_xor, num_foldB, num_foldB, num_powB, Gh.fold_xor (num_lt h) _ _ _ (num_lt x) (num_lt y) (nums_all _), nums_length _ _ (Nat.le_refl _), txt_size])
theorem pow_split (h : Nat → UInt8) (i k : Nat) : same 16 (powB h (i + k)) (mulB (powB h i) (powB h k)) = true := same_num_of (by
  rw [num_mulB, num_powB, num_powB, num_powB, Gh.pw_add (num_lt h)])
theorem pow_none (h : Nat → UInt8) : same 16 (powB h 0) (unum Gh.one) = true := same_refl _ _
theorem pow_once (h : Nat → UInt8) : same 16 (powB h 1) h = true := same_num_of (by rw [num_powB, Gh.pw_one (num_lt h)])

def rem40 (x : UInt8) : Nat := x.toNat % 40
def cut16 (n : Nat) : Nat := n / 32 * 16
def quo32 (n : Nat) : Nat := n / 32
def quo16 (n : Nat) : Nat := (n + 15) / 16
end Go.Proofs.Ytgaecjhghpkcoaa
end

section
namespace Go.Proofs.Ytgaecjhghpkcoaa
open Go.RowKit

/-! ### rows of bools -/
def blkB (n : Nat) (f : Nat → Bool) : Array Value := ((List.range n).map fun i => Value.bool (f i)).toArray
def updB (f : Nat → Bool) (i : Nat) (v : Bool) : Nat → Bool := fun j => if j = i then v else f j
theorem blkB_size (n : Nat) (f : Nat → Bool) : (blkB n f).size = n := by simp [blkB]
theorem blkB_get (n : Nat) (f : Nat → Bool) (i : Nat) (h : i < n) : (blkB n f)[i]? = some (.bool (f i)) := by simp [blkB, h]
theorem blkB_getE (n : Nat) (f : Nat → Bool) (i : Nat) (h : i < (blkB n f).size) : (blkB n f)[i]'h = .bool (f i) := by
  have h' : i < n := by rw [blkB_size] at h; exact h
  have := blkB_get n f i h'
  rw [Array.getElem?_eq_getElem h] at this
  exact Option.some.inj this
theorem blkB_set (n : Nat) (f : Nat → Bool) (i : Nat) (v : Bool) : (blkB n f).setIfInBounds i (.bool v) = blkB n (updB f i v) := by
  apply Array.ext_getElem?
  intro j
  by_cases hj : j < n
  · rw [blkB_get n _ j hj]
    by_cases hij : i = j
    · subst hij; simp [blkB_size, hj, updB]
    · rw [Array.getElem?_setIfInBounds_ne hij, blkB_get n f j hj]
      simp [updB, Ne.symm hij]
  · simp [blkB_size, Nat.le_of_not_lt hj]
theorem blkB_congr {n : Nat} {f g : Nat → Bool} (h : ∀ i, i < n → f i = g i) : blkB n f = blkB n g := by
  unfold blkB; congr 1
  apply List.map_congr_left
  intro i hi
  rw [h i (List.mem_range.1 hi)]
theorem oneCells_blkB (n : Nat) (f : Nat → Bool) : oneCells (blkB n f) = true := by simp [oneCells, blkB, Value.oneCell']
theorem paste_allB (n : Nat) (f g : Nat → Bool) : paste (blkB n f) 0 (blkB n g) = blkB n g := paste_whole _ _ (by rw [blkB_size, blkB_size])
theorem cut_headB (n : Nat) (f : Nat → Bool) : cut (blkB n f) 0 n = blkB n f := by
  unfold cut
  apply Array.ext_getElem?
  intro j
  rw [Array.getElem?_extract, blkB_size]
  by_cases hj : j < n
  · rw [if_pos (by omega), Nat.zero_add]
  · rw [if_neg (by omega)]
    simp [blkB_size, Nat.le_of_not_lt hj]
theorem blkB_ne (n : Nat) (f : Nat → Bool) : (blkB (n + 1) f = #[]) = False := by
  simp only [eq_iff_iff, iff_false]
  intro h
  have := congrArg Array.size h
  rw [blkB_size] at this
  simp at this

/-! ### what a row of coefficients tells -/
open Gh in
def valTo (p : Nat → Bool) : Nat → Nat
  | 0 => 0
  | m + 1 => valTo p m ^^^ (if p m = true then dblN m one else 0)
theorem valTo_congr {p q : Nat → Bool} : ∀ {m : Nat}, (∀ j, j < m → p j = q j) → valTo p m = valTo q m
  | 0, _ => rfl
  | m + 1, h => by simp only [valTo]; rw [valTo_congr (m := m) (fun j hj => h j (by omega)), h m (by omega)]
theorem valTo_xor (p q : Nat → Bool) : ∀ m, valTo (fun j => p j ^^ q j) m = valTo p m ^^^ valTo q m
  | 0 => by simp [valTo]
  | m + 1 => by
    simp only [valTo]
    rw [valTo_xor p q m, Gh.ite_xor]
    exact Gh.xor_22 _ _ _ _
theorem valTo_none : ∀ m, valTo (fun _ => false) m = 0
  | 0 => rfl
  | m + 1 => by simp [valTo, valTo_none m]
theorem valTo_only (c : Bool) (j : Nat) : ∀ m, valTo (fun i => decide (i = j) && c) m = if j < m ∧ c = true then Gh.dblN j Gh.one else 0
  | 0 => by simp [valTo]
  | m + 1 => by
    simp only [valTo]
    rw [valTo_only c j m]
    cases c
    · simp
    · by_cases h : m = j
      · subst h; simp
      · by_cases h2 : j < m
        · have h3 : j < m + 1 := by omega
          simp [h, h2, h3]
        · have h3 : ¬ j < m + 1 := by omega
          simp [h, h2, h3]
def flip (p : Nat → Bool) (j : Nat) : Nat → Bool := updB p j (!p j)
theorem valTo_flip (p : Nat → Bool) (j m : Nat) (h : j < m) : valTo (flip p j) m = valTo p m ^^^ Gh.dblN j Gh.one := by
  have e : flip p j = fun i => p i ^^ (decide (i = j) && true) := by
    funext i
    unfold flip updB
    by_cases hi : i = j
    · subst hi; simp
    · simp [hi]
  rw [e, valTo_xor, valTo_only, if_pos ⟨h, rfl⟩]
theorem valTo_bits (v : Nat) : ∀ m, valTo (fun i => v.testBit (127 - i)) m = Gh.tm Gh.one v m
  | 0 => rfl
  | m + 1 => by simp only [valTo, Gh.tm, valTo_bits v m]
theorem top_is : Gh.dblN 128 Gh.one = Gh.one ^^^ Gh.dblN 1 Gh.one ^^^ Gh.dblN 2 Gh.one ^^^ Gh.dblN 7 Gh.one := by decide +kernel
theorem top_at (k : Nat) : Gh.dblN (k + 128) Gh.one = Gh.dblN k Gh.one ^^^ Gh.dblN (k + 1) Gh.one ^^^ Gh.dblN (k + 2) Gh.one ^^^ Gh.dblN (k + 7) Gh.one := by
  have a0 := Gh.dblN_add Gh.one 128 k
  have a1 := Gh.dblN_add Gh.one 1 k
  have a2 := Gh.dblN_add Gh.one 2 k
  have a7 := Gh.dblN_add Gh.one 7 k
  rw [a0, a1, a2, a7, top_is, Gh.dblN_xor, Gh.dblN_xor, Gh.dblN_xor]

/-! ### the multiples off -/
def flip4 (p : Nat → Bool) (i : Nat) : Nat → Bool := flip (flip (flip (flip p (i - 128)) (i - 127)) (i - 126)) (i - 121)
def redOne (q : Nat → Bool) (i : Nat) : Nat → Bool := if q i = true then flip4 q i else q
def red (p : Nat → Bool) : Nat → Nat → Bool
  | 0 => p
  | n + 1 => redOne (red p n) (254 - n)
theorem red_val (p : Nat → Bool) : ∀ n, n ≤ 127 → valTo (red p n) (255 - n) = valTo p 255
  | 0, _ => rfl
  | n + 1, h => by
    rw [← red_val p n (by omega)]
    rw [show 255 - n = (254 - n) + 1 by omega, show 255 - (n + 1) = 254 - n by omega]
    have hr : red p (n + 1) = redOne (red p n) (254 - n) := rfl
    have hlo : 128 ≤ 254 - n := by omega
    rw [hr]
    generalize 254 - n = m at hlo ⊢
    generalize red p n = q
    have hv : valTo q (m + 1) = valTo q m ^^^ (if q m = true then Gh.dblN m Gh.one else 0) := rfl
    rw [hv]
    unfold redOne
    by_cases hb : q m = true
    · rw [if_pos hb, if_pos hb]
      unfold flip4
      rw [valTo_flip _ _ _ (by omega), valTo_flip _ _ _ (by omega), valTo_flip _ _ _ (by omega), valTo_flip _ _ _ (by omega)]
      have ht := top_at (m - 128)
      rw [show m - 128 + 128 = m by omega, show m - 128 + 1 = m - 127 by omega, show m - 128 + 2 = m - 126 by omega, show m - 128 + 7 = m - 121 by omega] at ht
      rw [ht]
      simp only [Nat.xor_assoc]
    · rw [if_neg hb, if_neg hb, Nat.xor_zero]

/-! ### the product -/
def pA (x y : Nat → Bool) : Nat → Nat → Bool
  | 0 => fun _ => false
  | i + 1 => fun j => pA x y i j ^^ (x i && (decide (i ≤ j ∧ j < i + 128) && y (j - i)))
def pI (x y : Nat → Bool) (i k : Nat) : Nat → Bool := fun j => pA x y i j ^^ (decide (i ≤ j ∧ j < i + k) && y (j - i))
theorem valTo_shift (y : Nat → Bool) (i N : Nat) : ∀ m, i + m ≤ N → valTo (fun j => decide (i ≤ j ∧ j < i + m) && y (j - i)) N = Gh.dblN i (valTo y m)
  | 0, _ => by
    have e : (fun j => decide (i ≤ j ∧ j < i + 0) && y (j - i)) = fun _ => false := by
      funext j
      have h0 : ¬ (i ≤ j ∧ j < i + 0) := by omega
      rw [decide_eq_false h0, Bool.false_and]
    rw [e, valTo_none]; exact (Gh.dblN_zero i).symm
  | m + 1, h => by
    have e : (fun j => decide (i ≤ j ∧ j < i + (m + 1)) && y (j - i)) = fun j => (decide (i ≤ j ∧ j < i + m) && y (j - i)) ^^ (decide (j = i + m) && y m) := by
      funext j
      by_cases h1 : j = i + m
      · subst h1
        have a1 : ¬ (i ≤ i + m ∧ i + m < i + m) := by omega
        have a2 : i ≤ i + m ∧ i + m < i + (m + 1) := by omega
        have a3 : i + m - i = m := by omega
        simp [a3]
      · by_cases h2 : i ≤ j ∧ j < i + m
        · have a2 : i ≤ j ∧ j < i + (m + 1) := by omega
          simp [h1, h2, a2]
        · have a2 : ¬ (i ≤ j ∧ j < i + (m + 1)) := by omega
          simp [h1, h2, a2]
    rw [e, valTo_xor, valTo_shift y i N m (by omega), valTo_only]
    simp only [valTo]
    rw [Gh.dblN_xor]
    congr 1
    cases y m
    · simp [Gh.dblN_zero]
    · rw [if_pos ⟨by omega, rfl⟩, if_pos rfl, Gh.dblN_add]
theorem pA_val (v : Nat) (y : Nat → Bool) : ∀ n, n ≤ 128 → valTo (pA (fun i => v.testBit (127 - i)) y n) 255 = Gh.tm (valTo y 128) v n
  | 0, _ => valTo_none 255
  | n + 1, h => by
    simp only [pA, Gh.tm]
    rw [valTo_xor, pA_val v y n (by omega)]
    congr 1
    cases v.testBit (127 - n)
    · simp [valTo_none]
    · simp only [Bool.true_and, if_true]
      exact valTo_shift y n 255 128 (by omega)
theorem pI_zero (x y : Nat → Bool) (i : Nat) : blkB 255 (pI x y i 0) = blkB 255 (pA x y i) := blkB_congr fun j _ => by
  unfold pI
  have h0 : ¬ (i ≤ j ∧ j < i + 0) := by omega
  rw [decide_eq_false h0, Bool.false_and, Bool.xor_false]
theorem pI_all (x y : Nat → Bool) (i : Nat) (h : x i = true) : blkB 255 (pI x y i 128) = blkB 255 (pA x y (i + 1)) := blkB_congr fun j _ => by
  unfold pI
  simp only [pA, h, Bool.true_and]
theorem pA_skip (x y : Nat → Bool) (i : Nat) (h : x i = false) : blkB 255 (pA x y (i + 1)) = blkB 255 (pA x y i) := blkB_congr fun j _ => by
  simp only [pA, h, Bool.false_and, Bool.xor_false]
theorem pI_step (x y : Nat → Bool) (i k : Nat) : blkB 255 (updB (pI x y i k) (i + k) (pI x y i k (i + k) ^^ y k)) = blkB 255 (pI x y i (k + 1)) := blkB_congr fun j _ => by
  unfold updB pI
  by_cases h : j = i + k
  · subst h
    have a3 : i + k - i = k := by omega
    simp [a3]
  · rw [if_neg h]
    by_cases h2 : i ≤ j ∧ j < i + k
    · have a2 : i ≤ j ∧ j < i + (k + 1) := by omega
      simp [h2, a2]
    · have a2 : ¬ (i ≤ j ∧ j < i + (k + 1)) := by omega
      simp [h2, a2]

/-! ### bits as bytes -/
def accN (p : Nat → Bool) (q : Nat) : Nat → Nat
  | 0 => 0
  | c + 1 => 2 * accN p q c + (if p (8 * q + c) = true then 1 else 0)
theorem accN_lt (p : Nat → Bool) (q : Nat) : ∀ c, accN p q c < 2 ^ c
  | 0 => by simp [accN]
  | c + 1 => by
    have := accN_lt p q c
    simp only [accN]
    rw [Nat.pow_succ]
    split <;> omega
theorem accN_bit (p : Nat → Bool) (q : Nat) : ∀ c j, j < c → (accN p q c).testBit (c - 1 - j) = p (8 * q + j)
  | 0, j, h => by omega
  | c + 1, j, h => by
    simp only [accN]
    by_cases hj : j = c
    · subst hj
      rw [show j + 1 - 1 - j = 0 by omega, Nat.testBit_zero]
      cases p (8 * q + j)
      · simp
      · simp only [if_true]
        apply decide_eq_true; omega
    · have ih := accN_bit p q c j (by omega)
      rw [show c + 1 - 1 - j = (c - 1 - j) + 1 by omega, Nat.testBit_succ]
      rw [show (2 * accN p q c + (if p (8 * q + c) = true then 1 else 0)) / 2 = accN p q c by split <;> omega]
      exact ih
def outF (p : Nat → Bool) (i : Nat) : Nat → UInt8 := fun q => UInt8.ofNat (accN p q (min 8 (i - 8 * q)))
def outD (p : Nat → Bool) (i : Nat) : UInt8 := UInt8.ofNat (2 * accN p (i / 8) (i % 8))
theorem outF_zero (p : Nat → Bool) : blk 16 (outF p 0) = blk 16 (fun _ => 0) := blk_congr fun q _ => by
  unfold outF
  rw [Nat.zero_sub]; rfl
theorem outF_at (p : Nat → Bool) (i : Nat) : (outF p i (i / 8)).toNat = accN p (i / 8) (i % 8) := by
  unfold outF
  rw [show min 8 (i - 8 * (i / 8)) = i % 8 by omega, UInt8.toNat_ofNat']
  have h := accN_lt p (i / 8) (i % 8)
  have h2 : 2 ^ (i % 8) ≤ 2 ^ 7 := Nat.pow_le_pow_right (by decide) (by omega)
  omega
theorem outD_nat (p : Nat → Bool) (i : Nat) : (outD p i).toNat = 2 * accN p (i / 8) (i % 8) := by
  unfold outD
  rw [UInt8.toNat_ofNat']
  have h := accN_lt p (i / 8) (i % 8)
  have h2 : 2 ^ (i % 8) ≤ 2 ^ 7 := Nat.pow_le_pow_right (by decide) (by omega)
  omega
theorem outD_wrap (p : Nat → Bool) (i : Nat) : IntKind.u8.wrap ((2 : Int) * B (outF p i (quo8 i))) = B (outD p i) := by
  rw [wrap8]
  unfold B quo8
  rw [outF_at, outD_nat]
  have h := accN_lt p (i / 8) (i % 8)
  have h2 : 2 ^ (i % 8) ≤ 2 ^ 7 := Nat.pow_le_pow_right (by decide) (by omega)
  omega
theorem outD_one (p : Nat → Bool) (i : Nat) : IntKind.u8.wrap (B (outD p i) + (1 : Int)) = B (outD p i + 1) := by
  rw [wrap8]
  unfold B
  rw [UInt8.toNat_add]
  have := (outD p i).toNat_lt
  show ((outD p i).toNat + 1 : Int) % 256 = (((outD p i).toNat + 1) % 2 ^ 8 : Nat)
  omega
theorem outF_next (p : Nat → Bool) (i : Nat) (x : UInt8) (hx : x.toNat = 2 * accN p (i / 8) (i % 8) + (if p i = true then 1 else 0)) : blk 16 (upd (outF p i) (quo8 i) x) = blk 16 (outF p (i + 1)) := blk_congr fun q _ => by
  unfold upd quo8
  by_cases h : q = i / 8
  · subst h
    rw [if_pos rfl]
    unfold outF
    rw [show min 8 (i + 1 - 8 * (i / 8)) = i % 8 + 1 by omega]
    simp only [accN]
    rw [show 8 * (i / 8) + i % 8 = i by omega, ← hx]
    apply UInt8.toNat_inj.1
    rw [UInt8.toNat_ofNat']
    have := x.toNat_lt
    omega
  · rw [if_neg h]
    unfold outF
    congr 2
    omega
theorem outF_no (p : Nat → Bool) (i : Nat) (h : p i = false) : blk 16 (upd (outF p i) (quo8 i) (outD p i)) = blk 16 (outF p (i + 1)) := outF_next p i _ (by rw [outD_nat, h]; simp)
theorem outF_yes (p : Nat → Bool) (i : Nat) (h : p i = true) : blk 16 (upd (upd (outF p i) (quo8 i) (outD p i)) (quo8 i) (outD p i + 1)) = blk 16 (outF p (i + 1)) := by
  rw [← outF_next p i (outD p i + 1) (by
    rw [UInt8.toNat_add, outD_nat, h]
    have h := accN_lt p (i / 8) (i % 8)
    have h2 : 2 ^ (i % 8) ≤ 2 ^ 7 := Nat.pow_le_pow_right (by decide) (by omega)
    show (2 * accN p (i / 8) (i % 8) + 1) % 2 ^ 8 = 2 * accN p (i / 8) (i % 8) + 1
    omega)]
  refine blk_congr fun q _ => ?_
  unfold upd
  by_cases hq : q = quo8 i
  · rw [if_pos hq, if_pos hq]
  · rw [if_neg hq, if_neg hq, if_neg hq]
theorem outF_num (p : Nat → Bool) : num (outF p 128) = valTo p 128 := by
  have hb : ∀ i, i < 128 → (num (outF p 128)).testBit (127 - i) = p i := fun i hi => by
    have h := byte_bit (outF p 128) (i / 8) (7 - i % 8) (by omega) (by omega)
    rw [show 8 * (15 - i / 8) + (7 - i % 8) = 127 - i by omega] at h
    rw [← h]
    unfold outF
    rw [show min 8 (128 - 8 * (i / 8)) = 8 by omega, UInt8.toNat_ofNat', Nat.mod_eq_of_lt (accN_lt p (i / 8) 8)]
    have := accN_bit p (i / 8) 8 (i % 8) (by omega)
    rw [show 8 - 1 - i % 8 = 7 - i % 8 by omega, show 8 * (i / 8) + i % 8 = i by omega] at this
    exact this
  have h1 : valTo p 128 = valTo (fun i => (num (outF p 128)).testBit (127 - i)) 128 := valTo_congr fun j hj => (hb j hj).symm
  rw [h1, valTo_bits]
  exact (Gh.one_mul (num_lt _)).symm
/-- all of it -/
theorem ref_product (a b : Nat → UInt8) : blk 16 (outF (red (pA (bitB a) (bitB b) 128) 127) 128) = blk 16 (mulB a b) := by
  have h1 := outF_num (red (pA (bitB a) (bitB b) 128) 127)
  have h2 := red_val (pA (bitB a) (bitB b) 128) 127 (Nat.le_refl _)
  have h3 := pA_val (num a) (bitB b) 128 (Nat.le_refl _)
  have h4 : valTo (bitB b) 128 = num b := (valTo_bits (num b) 128).trans (Gh.one_mul (num_lt b))
  rw [h4] at h3
  have h5 : num (outF (red (pA (bitB a) (bitB b) 128) 127) 128) = Gh.mul (num a) (num b) := by
    rw [h1, Gh.mul_comm (num_lt a) (num_lt b)]
    exact h2.trans h3
  rw [← blk_unum, h5]; rfl
end Go.Proofs.Ytgaecjhghpkcoaa
end

section
namespace Go.Proofs.Ytgaecjhghpkcoaa
open Go.RowKit
attribute [local go_sem] B_xor B_or B_and
attribute [local go_sem] blk_set blk_size blk_get blk_getE upd_same oneCells_blk paste_blk cut_blk szOf
attribute [local go_sem high] paste_all cut_head
attribute [local go_sem] rowAt_alloc rowAt_drew rowAt_drewN isRow_alloc isRow_drew isRow_drewN freeRow_alloc freeRow_end freeRow_drew freeRow_drewN
attribute [local go_sem] setRow_alloc setRow_drew setRow_drewN setCell_drewN alloc_drewN rowAt_put isRow_setRow freeRow_put
attribute [local go_sem ↓] loadS_in storeS_in indexS_in copyS_in
attribute [local go_sem] loadS_row loadS_one storeS_row storeS_one indexS_blk copyS_rows run_equalIn_blk same_refl arrayAt_row
attribute [local go_sem] cell_row frozen_row st_setCell st_blk_ne stepAt stepUpon
attribute [local go_sem high] run_eql_blk run_neq_blk
attribute [local go_sem] blkB_size blkB_get blkB_getE blkB_set oneCells_blkB blkB_ne
attribute [local go_sem high] paste_allB cut_headB

theorem halfs_test (b : Nat → UInt8) (i : Nat) (hi : i < 128) : ((halved (b (quo8 i)).toNat (sh7 i) : Int) % 2 == 1) = bitB b i := by
  have h := byte_bit b (quo8 i) (sh7 i) (by unfold quo8; omega) (by unfold sh7; omega)
  rw [show 8 * (15 - quo8 i) + sh7 i = 127 - i by unfold quo8 sh7; omega] at h
  unfold bitB
  rw [← h, Nat.testBit_eq_decide_div_mod_eq, Bool.eq_iff_iff]
  simp only [beq_iff_eq, decide_eq_true_eq]
  unfold halved
  omega
def rj (i j : Nat) : Nat := i % 8 + j
theorem halved_wrap (x : UInt8) (j : Nat) : IntKind.i64.wrap (halved x.toNat j : Int) = (halved x.toNat j : Int) := IntWalk.i64_in _ (by have := halved_le x.toNat j; have := x.toNat_lt; omega)
def upToB (g : Nat → Bool) (k : Nat) : Nat → Bool := fun j => if j < k then g j else false
theorem upToB_zero (n : Nat) (g : Nat → Bool) : blkB n (upToB g 0) = blkB n (fun _ => false) := blkB_congr fun i _ => by simp [upToB]
theorem upToB_all (n : Nat) (g : Nat → Bool) : blkB n (upToB g n) = blkB n g := blkB_congr fun i hi => by simp [upToB, hi]
theorem upToB_next (n : Nat) (g : Nat → Bool) (k : Nat) : blkB n (updB (upToB g k) k (g k)) = blkB n (upToB g (k + 1)) := blkB_congr fun i _ => by
  unfold updB upToB
  by_cases h : i = k
  · subst h; simp
  · by_cases h2 : i < k
    · have h3 : i < k + 1 := by omega
      simp [h, h2, h3]
    · have h3 : ¬ i < k + 1 := by omega
      simp [h, h2, h3]
end Go.Proofs.Ytgaecjhghpkcoaa
end

section
namespace Go.Proofs.Ytgaecjhghpkcoaa
open Go.RowKit
attribute [local go_sem] B_xor B_or B_and
attribute [local go_sem] blk_set blk_size blk_get blk_getE upd_same oneCells_blk paste_blk cut_blk szOf
attribute [local go_sem high] paste_all cut_head
attribute [local go_sem] rowAt_alloc rowAt_drew rowAt_drewN isRow_alloc isRow_drew isRow_drewN freeRow_alloc freeRow_end freeRow_drew freeRow_drewN
attribute [local go_sem] setRow_alloc setRow_drew setRow_drewN setCell_drewN alloc_drewN rowAt_put isRow_setRow freeRow_put
attribute [local go_sem ↓] loadS_in storeS_in indexS_in copyS_in
attribute [local go_sem] loadS_row loadS_one storeS_row storeS_one indexS_blk copyS_rows run_equalIn_blk same_refl arrayAt_row
attribute [local go_sem] cell_row frozen_row st_setCell st_blk_ne stepAt stepUpon
attribute [local go_sem high] run_eql_blk run_neq_blk
attribute [local go_sem] blkB_size blkB_get blkB_getE blkB_set oneCells_blkB blkB_ne
attribute [local go_sem high] paste_allB cut_headB

theorem flip_def (q : Nat → Bool) (j : Nat) : updB q j (!q j) = flip q j := by simp [flip]
attribute [local go_sem] flip_def
def dn (n : Nat) : Nat := 254 - n
theorem red_yes (p : Nat → Bool) (n : Nat) (h : red p n (dn n) = true) : flip (flip (flip (flip (red p n) (dn n - 128)) (dn n - 127)) (dn n - 126)) (dn n - 121) = red p (n + 1) := by
  show flip4 (red p n) (254 - n) = redOne (red p n) (254 - n)
  unfold redOne
  exact (if_pos h).symm
theorem red_no (p : Nat → Bool) (n : Nat) (h : red p n (dn n) = false) : red p n = red p (n + 1) := by
  show red p n = redOne (red p n) (254 - n)
  unfold redOne
  exact (if_neg (show ¬ red p n (dn n) = true by rw [h]; decide)).symm
end Go.Proofs.Ytgaecjhghpkcoaa
end

section
namespace Go.Proofs.Ytgaecjhghpkcoaa
open Go.RowKit
attribute [local go_sem] B_xor B_or B_and
attribute [local go_sem] blk_set blk_size blk_get blk_getE upd_same oneCells_blk paste_blk cut_blk szOf
attribute [local go_sem high] paste_all cut_head
attribute [local go_sem] rowAt_alloc rowAt_drew rowAt_drewN isRow_alloc isRow_drew isRow_drewN freeRow_alloc freeRow_end freeRow_drew freeRow_drewN
attribute [local go_sem] setRow_alloc setRow_drew setRow_drewN setCell_drewN alloc_drewN rowAt_put isRow_setRow freeRow_put
attribute [local go_sem ↓] loadS_in storeS_in indexS_in copyS_in
attribute [local go_sem] loadS_row loadS_one storeS_row storeS_one indexS_blk copyS_rows run_equalIn_blk same_refl arrayAt_row
attribute [local go_sem] cell_row frozen_row st_setCell st_blk_ne stepAt stepUpon
attribute [local go_sem high] run_eql_blk run_neq_blk

end Go.Proofs.Ytgaecjhghpkcoaa
end

section
namespace Go.Proofs.Ytgaecjhghpkcoaa
open Go.RowKit
attribute [local go_sem] B_xor B_or B_and
attribute [local go_sem] blk_set blk_size blk_get blk_getE upd_same oneCells_blk paste_blk cut_blk szOf
attribute [local go_sem high] paste_all cut_head
attribute [local go_sem] rowAt_alloc rowAt_drew rowAt_drewN isRow_alloc isRow_drew isRow_drewN freeRow_alloc freeRow_end freeRow_drew freeRow_drewN
attribute [local go_sem] setRow_alloc setRow_drew setRow_drewN setCell_drewN alloc_drewN rowAt_put isRow_setRow freeRow_put
attribute [local go_sem ↓] loadS_in storeS_in indexS_in copyS_in
attribute [local go_sem] loadS_row loadS_one storeS_row storeS_one indexS_blk copyS_rows run_equalIn_blk same_refl arrayAt_row
attribute [local go_sem] cell_row frozen_row st_setCell st_blk_ne stepAt stepUpon
attribute [local go_sem high] run_eql_blk run_neq_blk
attribute [local go_sem ↓] convBS_in
attribute [local go_sem] convBS_row convBS_nil allBytes_blk bytesOf_blk

theorem indexS_text {P : Program} {w : World} (t : TypeId) (s : ByteArray) (k : Nat) (hu : P.underlying t = some .string) (hk : k < s.size) : (indexS t (.string s) (.int .i64 (k : Int))).run P w = .ok (.int .u8 (B (ofText s k))) w := by
  have h1 : (0 : Int) ≤ (k : Int) ∧ (k : Int) < (s.size : Int) := by omega
  have hd : k < s.data.size := hk
  have hb : B (ofText s k) = ((s[k]'hk).toNat : Int) := by
    unfold B ofText
    rw [Array.getD_eq_getD_getElem?, Array.getElem?_eq_getElem hd]; rfl
  unfold indexS
  rw [run_index_string w t s .i64 (k : Int) hu, hb]
  simp [h1]
attribute [local go_sem] indexS_text
/-- the first j bytes of the text from place p on, put to a block -/
def mixIn (s : Nat → UInt8) (t : ByteArray) (p j : Nat) : Nat → UInt8 := fun i => if i < j then s i ^^^ ofText t (p + i) else s i
theorem mixIn_zero (s : Nat → UInt8) (t : ByteArray) (p : Nat) : blk 16 (mixIn s t p 0) = blk 16 s := blk_congr fun i _ => by simp [mixIn]
theorem mixIn_next (s : Nat → UInt8) (t : ByteArray) (p j : Nat) : blk 16 (upd (mixIn s t p j) j (mixIn s t p j j ^^^ ofText t (p + j))) = blk 16 (mixIn s t p (j + 1)) := blk_congr fun i _ => by
  unfold upd mixIn
  by_cases h : i = j
  · subst h; simp
  · by_cases h2 : i < j
    · have h3 : i < j + 1 := by omega
      simp [h, h2, h3]
    · have h3 : ¬ i < j + 1 := by omega
      simp [h, h2, h3]
theorem ofText_past (t : ByteArray) (i : Nat) (h : t.size ≤ i) : ofText t i = 0 := by
  have : t.data.size ≤ i := h
  simp [ofText, Array.getElem?_eq_none this]
/-- all that there are -/
theorem mixIn_all (s : Nat → UInt8) (t : ByteArray) (p j : Nat) (h : j = 16 ∨ t.size ≤ p + j) : blk 16 (mixIn s t p j) = blk 16 (Ci.xorB s (fun i => ofText t (p + i))) := blk_congr fun i hi => by
  unfold mixIn Ci.xorB
  by_cases h2 : i < j
  · rw [if_pos h2]
  · rw [if_neg h2]
    show s i = s i ^^^ ofText t (p + i)
    rw [ofText_past t (p + i) (by omega)]
    simp
/-- a text from a place on, folded in -/
def foldFrom (h s : Nat → UInt8) (t : ByteArray) (p : Nat) : Nat → UInt8 := unum (Gh.fold (num h) (num s) (nums ((txt t).drop p)))
theorem ofText_drop (t : ByteArray) (p : Nat) : (fun i => ofText t (p + i)) = fun i => ((txt t).drop p).getD i 0 := by
  funext i
  rw [ofText_txt]
  simp [List.getD_eq_getElem?_getD, List.getElem?_drop]
theorem foldFrom_next (h s : Nat → UInt8) (t : ByteArray) (p : Nat) (hp : p < t.size) : foldFrom h (mulB (Ci.xorB s (fun i => ofText t (p + i))) h) t (p + 16) = foldFrom h s t p := by
  unfold foldFrom
  have hne : (txt t).drop p ≠ [] := fun e => by
    have := congrArg List.length e
    rw [List.length_drop, txt_size] at this
    simp at this; omega
  rw [nums_cons _ hne, num_mulB, num_xor, ofText_drop, List.drop_drop]
  rfl
theorem foldFrom_end (h s : Nat → UInt8) (t : ByteArray) (p : Nat) (hp : t.size ≤ p) : blk 16 s = blk 16 (foldFrom h s t p) := by
  unfold foldFrom
  rw [List.drop_of_length_le (by rw [txt_size]; exact hp)]
  show blk 16 s = blk 16 (unum (num s))
  rw [blk_unum]

end Go.Proofs.Ytgaecjhghpkcoaa
end

section
namespace Go.Proofs.Ytgaecjhghpkcoaa
open Go.RowKit
attribute [local go_sem] B_xor B_or B_and
attribute [local go_sem] blk_set blk_size blk_get blk_getE upd_same oneCells_blk paste_blk cut_blk szOf
attribute [local go_sem high] paste_all cut_head
attribute [local go_sem] rowAt_alloc rowAt_drew rowAt_drewN isRow_alloc isRow_drew isRow_drewN freeRow_alloc freeRow_end freeRow_drew freeRow_drewN
attribute [local go_sem] setRow_alloc setRow_drew setRow_drewN setCell_drewN alloc_drewN rowAt_put isRow_setRow freeRow_put
attribute [local go_sem ↓] loadS_in storeS_in indexS_in copyS_in
attribute [local go_sem] loadS_row loadS_one storeS_row storeS_one indexS_blk copyS_rows run_equalIn_blk same_refl arrayAt_row
attribute [local go_sem] cell_row frozen_row st_setCell st_blk_ne stepAt stepUpon
attribute [local go_sem high] run_eql_blk run_neq_blk
attribute [local go_sem ↓] convBS_in
attribute [local go_sem] convBS_row convBS_nil allBytes_blk bytesOf_blk

def laidE (n k : Nat) : Nat → UInt8 := fun i => if k ≤ i then byteN n 8 i else 0
theorem laidE_none (n : Nat) : blk 8 (laidE n 8) = blk 8 (fun _ => 0) := blk_congr fun i hi => by unfold laidE; rw [if_neg (by omega)]
theorem laidE_all (n : Nat) : blk 8 (laidE n 0) = blk 8 (byteN n 8) := blk_congr fun i _ => by unfold laidE; rw [if_pos (by omega)]
def q256 (n k : Nat) : Nat := n / 256 ^ (8 - k)
def r256 (n k : Nat) : Nat := n / 256 ^ (8 - k) % 256
theorem q256_next (n k : Nat) (hk : k < 8) : q256 n (k + 1) / 256 = q256 n k := by
  unfold q256
  rw [Nat.div_div_eq_div_mul, show 8 - k = (8 - (k + 1)) + 1 by omega, Nat.pow_succ]
theorem laidE_next (n k : Nat) (hk : k < 8) : blk 8 (upd (laidE n (k + 1)) k (UInt8.ofNat (q256 n (k + 1)))) = blk 8 (laidE n k) := blk_congr fun i _ => by
  unfold upd laidE
  by_cases h : i = k
  · subst h
    rw [if_pos rfl, if_pos (Nat.le_refl _)]
    unfold byteN q256
    rw [show 8 - (i + 1) = 8 - 1 - i by omega]
  · rw [if_neg h]
    by_cases h2 : k ≤ i
    · rw [if_pos h2, if_pos (by omega)]
    · rw [if_neg h2, if_neg (by omega)]
theorem q256_le (n k : Nat) : q256 n k ≤ n := Nat.div_le_self _ _
theorem q256_byte (n k : Nat) : ((q256 n k % 256 : Nat) : Int) = B (UInt8.ofNat (q256 n k)) := by
  unfold B; rw [UInt8.toNat_ofNat']
theorem zero8 : #[Value.int .u8 0, .int .u8 0, .int .u8 0, .int .u8 0, .int .u8 0, .int .u8 0, .int .u8 0, .int .u8 0] = blk 8 (fun _ => 0) := by kernel_rfl
end Go.Proofs.Ytgaecjhghpkcoaa
end

section
namespace Go.Proofs.Ytgaecjhghpkcoaa
open Go.RowKit
attribute [local go_sem] B_xor B_or B_and
attribute [local go_sem] blk_set blk_size blk_get blk_getE upd_same oneCells_blk paste_blk cut_blk szOf
attribute [local go_sem high] paste_all cut_head
attribute [local go_sem] rowAt_alloc rowAt_drew rowAt_drewN isRow_alloc isRow_drew isRow_drewN freeRow_alloc freeRow_end freeRow_drew freeRow_drewN
attribute [local go_sem] setRow_alloc setRow_drew setRow_drewN setCell_drewN alloc_drewN rowAt_put isRow_setRow freeRow_put
attribute [local go_sem ↓] loadS_in storeS_in indexS_in copyS_in
attribute [local go_sem] loadS_row loadS_one storeS_row storeS_one indexS_blk copyS_rows run_equalIn_blk same_refl arrayAt_row
attribute [local go_sem] cell_row frozen_row st_setCell st_blk_ne stepAt stepUpon
attribute [local go_sem high] run_eql_blk run_neq_blk
attribute [local go_sem] strOf_size

theorem txt_append (a b : ByteArray) : txt (a ++ b) = txt a ++ txt b := by
  unfold txt
  rw [ByteArray.data_append]; simp
theorem txt_strOf (n : Nat) (f : Nat → UInt8) : txt (strOf n f) = (List.range n).map f := by simp [txt, strOf]
theorem eight_nums (m n : Nat) (hm : m < 2 ^ 64) (hn : n < 2 ^ 64) : nums (txt (strOf 8 (byteN m 8) ++ strOf 8 (byteN n 8))) = [m * 2 ^ 64 + n] := by
  rw [txt_append, txt_strOf, txt_strOf]
  have hl : ((List.range 8).map (byteN m 8) ++ (List.range 8).map (byteN n 8)).length = 16 := by simp
  rw [nums_cons _ (fun e => by rw [e] at hl; cases hl), List.drop_of_length_le (by omega), nums_nil]
  refine congrArg (fun x => [x]) ?_
  have h1 := numTo_add (fun i => ((List.range 8).map (byteN m 8) ++ (List.range 8).map (byteN n 8)).getD i 0) 8 8
  have h2 : numTo (fun i => ((List.range 8).map (byteN m 8) ++ (List.range 8).map (byteN n 8)).getD i 0) 8 = m := by
    rw [numTo_congr (c := byteN m 8) (fun i hi => by rw [List.getD_eq_getElem?_getD, List.getElem?_append_left (by simp; omega)]; simp [hi]), numTo_byteN m 8 8 (Nat.le_refl _), Nat.sub_self, Nat.pow_zero, Nat.div_one]
    exact Nat.mod_eq_of_lt hm
  have h3 : numTo (fun j => ((List.range 8).map (byteN m 8) ++ (List.range 8).map (byteN n 8)).getD (8 + j) 0) 8 = n := by
    rw [numTo_congr (c := byteN n 8) (fun i hi => by rw [List.getD_eq_getElem?_getD, List.getElem?_append_right (by simp)]; simp [hi]), numTo_byteN n 8 8 (Nat.le_refl _), Nat.sub_self, Nat.pow_zero, Nat.div_one]
    exact Nat.mod_eq_of_lt hn
  rw [h2, h3] at h1
  exact h1
def len8 (a : ByteArray) : Nat := 8 * a.size
theorem sum_fin (h : Nat → UInt8) (a b : ByteArray) (ha : a.size < 2 ^ 40) (hb : b.size < 2 ^ 40) :
    blk 16 (foldB h (foldB h (foldB h (fun _ => 0) a) b) (strOf 8 (byteN (len8 a) 8) ++ strOf 8 (byteN (len8 b) 8))) = blk 16 (sumB h a b) := by
  have e : foldB h (foldB h (foldB h (fun _ => 0) a) b) (strOf 8 (byteN (len8 a) 8) ++ strOf 8 (byteN (len8 b) 8)) = sumB h a b := by
    unfold sumB
    rw [← sumN_eq]
    show unum (Gh.fold (num h) (num (foldB h (foldB h (fun _ => 0) a) b)) _) = _
    rw [num_foldB, num_foldB, num_zero, eight_nums _ _ (by unfold len8; omega) (by unfold len8; omega)]
    rfl
  rw [e]
end Go.Proofs.Ytgaecjhghpkcoaa
end

section
namespace Go.Proofs.Ytgaecjhghpkcoaa
open Go.RowKit

theorem nums_part : ∀ (n j : Nat) (l m : List UInt8), l.length ≤ n → l.length = m.length → j < l.length → (∀ i, i ≠ j → l.getD i 0 = m.getD i 0) → l.getD j 0 ≠ m.getD j 0 →
    ∃ pre c d post, nums l = pre ++ c :: post ∧ nums m = pre ++ d :: post ∧ c ≠ d
  | 0, j, l, m, hn, _, hj, _, _ => by omega
  | n + 1, j, l, m, hn, hlm, hj, he, hne => by
    have h1 : l ≠ [] := fun e => by rw [e] at hj; simp at hj
    have h2 : m ≠ [] := fun e => by rw [hlm, e] at hj; simp at hj
    rw [nums_cons l h1, nums_cons m h2]
    by_cases h16 : j < 16
    · refine ⟨[], num (fun i => l.getD i 0), num (fun i => m.getD i 0), nums (l.drop 16), rfl, ?_, fun e => hne (num_inj e j h16)⟩
      have : l.drop 16 = m.drop 16 := by
        apply List.ext_getElem?
        intro i
        rw [List.getElem?_drop, List.getElem?_drop]
        by_cases hi : 16 + i < l.length
        · have := he (16 + i) (by omega)
          rw [List.getD_eq_getElem?_getD, List.getD_eq_getElem?_getD, List.getElem?_eq_getElem hi, List.getElem?_eq_getElem (by omega)] at this
          rw [List.getElem?_eq_getElem hi, List.getElem?_eq_getElem (by omega)]
          simpa using this
        · rw [List.getElem?_eq_none (by omega), List.getElem?_eq_none (by omega)]
      rw [this]; rfl
    · have hc : num (fun i => l.getD i 0) = num (fun i => m.getD i 0) := numTo_congr fun i hi => he i (by omega)
      have hd : ∀ (x : List UInt8) i, (x.drop 16).getD i 0 = x.getD (16 + i) 0 := fun x i => by
        rw [List.getD_eq_getElem?_getD, List.getD_eq_getElem?_getD, List.getElem?_drop]
      obtain ⟨pre, c, d, post, e1, e2, e3⟩ := nums_part n (j - 16) (l.drop 16) (m.drop 16) (by rw [List.length_drop]; omega) (by rw [List.length_drop, List.length_drop, hlm]) (by rw [List.length_drop]; omega)
        (fun i hi => by rw [hd, hd]; exact he _ (by omega)) (by rw [hd, hd, show 16 + (j - 16) = j by omega]; exact hne)
      exact ⟨_ :: pre, c, d, post, by rw [e1]; rfl, by rw [hc, e2]; rfl, e3⟩
theorem fold_part {h c d : Nat} (hh : Gh.Ok h) (h0 : h ≠ 0) (pre post : List Nat) (hp : ∀ x ∈ pre ++ c :: post, Gh.Ok x) (hd : Gh.Ok d) (hcd : c ≠ d) : Gh.fold h 0 (pre ++ c :: post) ≠ Gh.fold h 0 (pre ++ d :: post) := by
  rw [Gh.fold_append, Gh.fold_append]
  exact Gh.fold_ne hh h0 (Gh.fold_lt Gh.ok_zero _ (fun x hx => hp x (by simp [hx]))) (hp c (by simp)) hd hcd _ (fun x hx => hp x (by simp [hx]))
theorem getD_map (n : Nat) (f : Nat → UInt8) (i : Nat) : ((List.range n).map f).getD i 0 = if i < n then f i else 0 := by
  rw [List.getD_eq_getElem?_getD]
  by_cases h : i < n
  · simp [h]
  · simp [h]
/-- the sums of (f, g) and (f', g'), of which one byte differs -/
theorem sum_part (h : Nat → UInt8) (m n : Nat) (F : Nat → UInt8) (j : Nat) (v : UInt8) (hm : m < 2 ^ 40) (hn : n < 2 ^ 40) (hj : j < m + n) (hv : v ≠ F j) (hh : same 16 h (fun _ => 0) = false) :
    same 16 (sumB h (strOf m (upd F j v)) (strOf n fun i => upd F j v (m + i))) (sumB h (strOf m F) (strOf n fun i => F (m + i))) = false := by
  have h0 : num h ≠ 0 := fun e => by
    have : same 16 h (fun _ => 0) = true := (same_iff _ _ _).2 (num_inj (by rw [e]; exact num_zero.symm))
    rw [hh] at this; cases this
  have hl : lens (strOf m (upd F j v)) (strOf n fun i => upd F j v (m + i)) = lens (strOf m F) (strOf n fun i => F (m + i)) := by
    unfold lens; rw [strOf_size, strOf_size, strOf_size, strOf_size]
  have hok : Gh.Ok (lens (strOf m F) (strOf n fun i => F (m + i))) := lens_ok (by rw [strOf_size]; exact hm) (by rw [strOf_size]; exact hn)
  cases hs : same 16 (sumB h (strOf m (upd F j v)) (strOf n fun i => upd F j v (m + i))) (sumB h (strOf m F) (strOf n fun i => F (m + i))) with
  | false => rfl
  | true =>
    exfalso
    have hall : ∀ a b : ByteArray, Gh.Ok (lens a b) → ∀ x ∈ nums (txt a) ++ nums (txt b) ++ [lens a b], Gh.Ok x := fun a b hab x hx => by
      simp only [List.mem_append, List.mem_singleton] at hx
      rcases hx with (hx | hx) | rfl
      · exact nums_ok _ _ x hx
      · exact nums_ok _ _ x hx
      · exact hab
    have e : sumN (num h) (strOf m (upd F j v)) (strOf n fun i => upd F j v (m + i)) = sumN (num h) (strOf m F) (strOf n fun i => F (m + i)) := by
      have h1 : ∀ a b : ByteArray, Gh.Ok (lens a b) → Gh.Ok (sumN (num h) a b) := fun a b hab => Gh.fold_lt Gh.ok_zero _ (hall a b hab)
      have h2 : num (sumB h (strOf m (upd F j v)) (strOf n fun i => upd F j v (m + i))) = num (sumB h (strOf m F) (strOf n fun i => F (m + i))) := numTo_congr ((same_iff _ _ _).1 hs)
      unfold sumB at h2
      have hok' : Gh.Ok (lens (strOf m (upd F j v)) (strOf n fun i => upd F j v (m + i))) := by rw [hl]; exact hok
      have e1 := num_unum (h1 _ _ hok')
      have e2 := num_unum (h1 _ _ hok)
      exact e1.symm.trans (h2.trans e2)
    unfold sumN at e
    rw [hl, txt_strOf, txt_strOf, txt_strOf, txt_strOf] at e
    by_cases hjm : j < m
    · have e2 : (List.range n).map (fun i => upd F j v (m + i)) = (List.range n).map fun i => F (m + i) := List.map_congr_left fun i hi => upd_other _ _ _ _ (by omega)
      rw [e2] at e
      obtain ⟨pre, c, d, post, q1, q2, q3⟩ := nums_part _ j ((List.range m).map (upd F j v)) ((List.range m).map F) (Nat.le_refl _) (by simp) (by simpa using hjm)
        (fun i hi => by rw [getD_map, getD_map, upd_other _ _ _ _ hi]) (by rw [getD_map, getD_map, if_pos hjm, if_pos hjm, upd_same]; exact hv)
      have a1 : ∀ x ∈ nums ((List.range m).map (upd F j v)), Gh.Ok x := nums_ok _ _
      have a2 : ∀ x ∈ nums ((List.range m).map F), Gh.Ok x := nums_ok _ _
      rw [q1] at a1; rw [q2] at a2
      rw [q1, q2, List.append_assoc, List.append_assoc, List.append_assoc, List.append_assoc, List.cons_append, List.cons_append] at e
      refine fold_part (num_lt h) h0 pre _ (fun x hx => ?_) (a2 d (by simp)) q3 e
      simp only [List.mem_append, List.mem_cons] at hx
      rcases hx with hx | rfl | hx | hx | rfl | hx
      · exact a1 x (by simp [hx])
      · exact a1 x (by simp)
      · exact a1 x (by simp [hx])
      · exact nums_ok _ _ x hx
      · exact hok
      · cases hx
    · have e2 : (List.range m).map (upd F j v) = (List.range m).map F := List.map_congr_left fun i hi => upd_other _ _ _ _ (by have := List.mem_range.1 hi; omega)
      rw [e2] at e
      have hjn : j - m < n := by omega
      obtain ⟨pre, c, d, post, q1, q2, q3⟩ := nums_part _ (j - m) ((List.range n).map fun i => upd F j v (m + i)) ((List.range n).map fun i => F (m + i)) (Nat.le_refl _) (by simp) (by simpa using hjn)
        (fun i hi => by rw [getD_map, getD_map, upd_other _ _ _ _ (by omega)]) (by rw [getD_map, getD_map, if_pos hjn, if_pos hjn, show m + (j - m) = j by omega, upd_same]; exact hv)
      have a1 : ∀ x ∈ nums ((List.range n).map fun i => upd F j v (m + i)), Gh.Ok x := nums_ok _ _
      have a2 : ∀ x ∈ nums ((List.range n).map fun i => F (m + i)), Gh.Ok x := nums_ok _ _
      rw [q1] at a1; rw [q2] at a2
      rw [q1, q2, ← List.append_assoc, ← List.append_assoc, List.append_assoc, List.append_assoc (_ ++ pre), List.cons_append, List.cons_append] at e
      refine fold_part (num_lt h) h0 (nums ((List.range m).map F) ++ pre) _ (fun x hx => ?_) (a2 d (by simp)) q3 e
      simp only [List.mem_append, List.mem_cons] at hx
      rcases hx with (hx | hx) | rfl | hx | rfl | hx
      · exact nums_ok _ _ x hx
      · exact a1 x (by simp [hx])
      · exact a1 x (by simp)
      · exact a1 x (by simp [hx])
      · exact hok
      · cases hx
/-- nothing is summed to nothing -/
theorem fold_zero : ∀ l : List Nat, (∀ c ∈ l, Gh.Ok c) → Gh.fold 0 0 l = 0
  | [], _ => rfl
  | c :: l, h => by
    show Gh.fold 0 (Gh.mul (0 ^^^ c) 0) l = 0
    rw [Nat.zero_xor, Gh.mul_zero (h c (by simp))]
    exact fold_zero l (fun x hx => h x (by simp [hx]))
theorem sum_zero (a b : ByteArray) (ha : a.size < 2 ^ 40) (hb : b.size < 2 ^ 40) : same 16 (sumB (fun _ => 0) a b) (fun _ => 0) = true := by
  apply same_num_of
  unfold sumB
  have hall : ∀ x ∈ nums (txt a) ++ nums (txt b) ++ [lens a b], Gh.Ok x := fun x hx => by
    simp only [List.mem_append, List.mem_singleton] at hx
    rcases hx with (hx | hx) | rfl
    · exact nums_ok _ _ x hx
    · exact nums_ok _ _ x hx
    · exact lens_ok ha hb
  have e : sumN (num fun _ => 0) a b = 0 := by
    unfold sumN; rw [num_zero]; exact fold_zero _ hall
  rw [e, num_unum Gh.ok_zero, num_zero]
theorem sum_empty (h : Nat → UInt8) (a b : ByteArray) (ha : a.size = 0) (hb : b.size = 0) : same 16 (sumB h a b) (fun _ => 0) = true := by
  apply same_num_of
  unfold sumB
  have e1 : txt a = [] := List.length_eq_zero_iff.1 (by rw [txt_size]; exact ha)
  have e2 : txt b = [] := List.length_eq_zero_iff.1 (by rw [txt_size]; exact hb)
  have e : sumN (num h) a b = 0 := by
    unfold sumN lens; rw [e1, e2, ha, hb]; exact Gh.zero_mul _
  rw [e, num_unum Gh.ok_zero, num_zero]
end Go.Proofs.Ytgaecjhghpkcoaa
end
