/- The reference's Hash, Counter, Stream. Texts shorter than 2 to 40. * The reference's Stream, Tag, Seal, Open. Texts shorter than 2 to 40. * The reference's Tag, Seal, Open. Texts shorter than 2 to 40. * padlocklaw09.awake returns true; padlocklaw09.over. -/
import Derived.Test.YtgaecjhghpkcoaaMGcm
import Derived.Test.YtgaecjhghpkcoaaMCipRef
import Derived.Test.YtgaecjhghpkcoaaMGhaRef
section
namespace Go.Proofs.Ytgaecjhghpkcoaa
open Go.RowKit
attribute [local go_sem] B_xor B_or B_and
attribute [local go_sem] blk_set blk_size blk_get blk_getE upd_same oneCells_blk paste_blk cut_blk szOf
attribute [local go_sem high] paste_all cut_head
attribute [local go_sem] rowAt_alloc rowAt_drew rowAt_drewN isRow_alloc isRow_drew isRow_drewN freeRow_alloc freeRow_end freeRow_drew freeRow_drewN
attribute [local go_sem] setRow_alloc setRow_drew setRow_drewN setCell_drewN alloc_drewN rowAt_put isRow_setRow freeRow_put
attribute [local go_sem ↓] loadS_in storeS_in indexS_in copyS_in
attribute [local go_sem] loadS_row loadS_one storeS_row storeS_one indexS_blk copyS_rows run_equalIn_blk same_refl arrayAt_row
attribute [local go_sem] cell_row frozen_row st_setCell st_blk_ne stepAt stepUpon
attribute [local go_sem high] run_eql_blk run_neq_blk
attribute [local go_sem ↓] convBS_in
attribute [local go_sem] convBS_row convBS_nil allBytes_blk bytesOf_blk
attribute [local go_sem ↓] convSB_in
attribute [local go_sem] convSB_row freeRow_endB indexS_text

theorem refZero176 : Try.zeroCells77 = blk 176 (fun _ => 0) := by kernel_rfl
theorem byte_mod (n : Nat) : IntKind.u8.wrap ((n : Int) % 256) = B (UInt8.ofNat n) := by
  rw [← byte_of]
  simp [IntKind.wrap, IntKind.signed, IntKind.bits]
theorem iv_all (s : ByteArray) (h : s.size = 12) : blk 16 (upTo (fun _ => 0) (ofText s) 12) = blk 16 (ofText s) := blk_congr fun i _ => by
  unfold upTo
  by_cases hi : i < 12
  · rw [if_pos hi]
  · rw [if_neg hi, ofText_out s i (by omega)]
end Go.Proofs.Ytgaecjhghpkcoaa
end

section
namespace Go.Proofs.Ytgaecjhghpkcoaa
open Go.RowKit
attribute [local go_sem] B_xor B_or B_and
attribute [local go_sem] blk_set blk_size blk_get blk_getE upd_same oneCells_blk paste_blk cut_blk szOf
attribute [local go_sem high] paste_all cut_head
attribute [local go_sem] rowAt_alloc rowAt_drew rowAt_drewN isRow_alloc isRow_drew isRow_drewN freeRow_alloc freeRow_end freeRow_drew freeRow_drewN
attribute [local go_sem] setRow_alloc setRow_drew setRow_drewN setCell_drewN alloc_drewN rowAt_put isRow_setRow freeRow_put
attribute [local go_sem ↓] loadS_in storeS_in indexS_in copyS_in
attribute [local go_sem] loadS_row loadS_one storeS_row storeS_one indexS_blk copyS_rows run_equalIn_blk same_refl arrayAt_row
attribute [local go_sem] cell_row frozen_row st_setCell st_blk_ne stepAt stepUpon
attribute [local go_sem high] run_eql_blk run_neq_blk
attribute [local go_sem ↓] convBS_in
attribute [local go_sem] convBS_row convBS_nil allBytes_blk bytesOf_blk
attribute [local go_sem ↓] convSB_in
attribute [local go_sem] convSB_row freeRow_endB indexS_text

/-- how far it is, q blocks on -/
def lim (q : Nat) (s : ByteArray) : Nat := min (16 * q) s.size
theorem strB_far (r v : Nat → UInt8) (n : Nat) (f : Nat → UInt8) (q i : Nat) (hi : i < 16) : f (16 * q + i) ^^^ padB r v (nxN n q) i = strB r v n f (16 * q + i) := by
  unfold strB
  rw [show (16 * q + i) / 16 = q by omega, show (16 * q + i) % 16 = i by omega]
theorem pad_at (r : Nat → UInt8) (iv : ByteArray) (n : Nat) (w : World) : Calls Try.prog 35 #[.agg (blk 176 r), .agg (blk 16 (ctr (ofText iv) n))] w fun e w' => e = .returned (.agg (blk 16 (padB r (ofText iv) n))) ∧ Below w.heap.size w w' := refSeal_any _ _ w
end Go.Proofs.Ytgaecjhghpkcoaa
end

section
namespace Go.Proofs.Ytgaecjhghpkcoaa
open Go.RowKit
attribute [local go_sem] B_xor B_or B_and
attribute [local go_sem] blk_set blk_size blk_get blk_getE upd_same oneCells_blk paste_blk cut_blk szOf
attribute [local go_sem high] paste_all cut_head
attribute [local go_sem] rowAt_alloc rowAt_drew rowAt_drewN isRow_alloc isRow_drew isRow_drewN freeRow_alloc freeRow_end freeRow_drew freeRow_drewN
attribute [local go_sem] setRow_alloc setRow_drew setRow_drewN setCell_drewN alloc_drewN rowAt_put isRow_setRow freeRow_put
attribute [local go_sem ↓] loadS_in storeS_in indexS_in copyS_in
attribute [local go_sem] loadS_row loadS_one storeS_row storeS_one indexS_blk copyS_rows run_equalIn_blk same_refl arrayAt_row
attribute [local go_sem] cell_row frozen_row st_setCell st_blk_ne stepAt stepUpon
attribute [local go_sem high] run_eql_blk run_neq_blk
attribute [local go_sem ↓] convBS_in
attribute [local go_sem] convBS_row convBS_nil allBytes_blk bytesOf_blk
attribute [local go_sem ↓] convSB_in
attribute [local go_sem] convSB_row freeRow_endB indexS_text

theorem text_eq (a b : ByteArray) : (a.toList == b.toList) = true ↔ a = b := by
  rw [ByteArray.toList_eq, ByteArray.toList_eq, beq_iff_eq]
  constructor
  · intro h
    cases a; cases b
    congr 1
    exact Array.toList_inj.1 h
  · rintro rfl; rfl
theorem text_ne {a b : ByteArray} (h : ¬ a = b) : (a.toList == b.toList) = false := by
  cases hh : (a.toList == b.toList) with
  | false => rfl
  | true => exact (h ((text_eq a b).1 hh)).elim
theorem text_same (a : ByteArray) : (a.toList == a.toList) = true := (text_eq a a).2 rfl
theorem tag_eq (r v : Nat → UInt8) (a s : ByteArray) (hl : 16 ≤ s.size) : tagS r v a (cutS s) = endS s ↔ tagged r v a s = true := by
  have hz : (endS s).size = 16 := by unfold endS; rw [ByteArray.size_extract]; omega
  constructor
  · intro h
    unfold tagged
    rw [same_iff, ← h]
    exact fun i hi => (ofText_strOf _ _ _ hi).symm
  · intro h
    unfold tagged at h
    rw [same_iff] at h
    unfold tagS
    rw [strOf_congr h, strOf_ofText _ _ hz]
end Go.Proofs.Ytgaecjhghpkcoaa
end

section
namespace Go.Proofs.Ytgaecjhghpkcoaa
open Go.RowKit
attribute [local go_sem] B_xor B_or B_and
attribute [local go_sem] blk_set blk_size blk_get blk_getE upd_same oneCells_blk paste_blk cut_blk szOf
attribute [local go_sem high] paste_all cut_head
attribute [local go_sem] rowAt_alloc rowAt_drew rowAt_drewN isRow_alloc isRow_drew isRow_drewN freeRow_alloc freeRow_end freeRow_drew freeRow_drewN
attribute [local go_sem] setRow_alloc setRow_drew setRow_drewN setCell_drewN alloc_drewN rowAt_put isRow_setRow freeRow_put
attribute [local go_sem ↓] loadS_in storeS_in indexS_in copyS_in
attribute [local go_sem] loadS_row loadS_one storeS_row storeS_one indexS_blk copyS_rows run_equalIn_blk same_refl arrayAt_row
attribute [local go_sem] cell_row frozen_row st_setCell st_blk_ne stepAt stepUpon
attribute [local go_sem high] run_eql_blk run_neq_blk
attribute [local go_sem ↓] convBS_in
attribute [local go_sem] convBS_row convBS_nil allBytes_blk bytesOf_blk
attribute [local go_sem ↓] convSB_in
attribute [local go_sem] convSB_row freeRow_endB indexS_text

def noB : Nat → UInt8 := fun _ => 0
def noIv : ByteArray := strOf 12 noB
theorem hash_no : Ci.EqB (hashB (Ci.rounds noB)) (Ci.lit [102, 233, 75, 212, 239, 138, 44, 59, 136, 76, 250, 89, 202, 52, 43, 46]) := Ci.zsealed
theorem iv_no (i : Nat) : ofText noIv i = 0 := by
  by_cases h : i < 12
  · exact ofText_strOf _ _ _ h
  · exact ofText_out _ _ (by unfold noIv; rw [strOf_size]; omega)
theorem ctr_no : Ci.EqB (ctr (ofText noIv) 1) Ci.oneB := fun i hi => by
  unfold ctr ctrTo Ci.oneB
  rw [iv_no]
  have h : ∀ i < 16, (if 16 - 4 ≤ i ∧ i < 16 then UInt8.ofNat (1 / 256 ^ (15 - i)) else 0) = if i = 15 then (1 : UInt8) else 0 := by decide +kernel
  exact h i hi
theorem num_lit : num (Ci.lit [102, 233, 75, 212, 239, 138, 44, 59, 136, 76, 250, 89, 202, 52, 43, 46]) = 0x66e94bd4ef8a2c3b884cfa59ca342b2e := by decide +kernel
theorem num_no : num (hashB (Ci.rounds noB)) = 0x66e94bd4ef8a2c3b884cfa59ca342b2e := by
  rw [← num_lit]; exact numTo_congr hash_no
theorem part_no : Gh.quickMul 0x78000000000000000000000000000000 0x66e94bd4ef8a2c3b884cfa59ca342b2e ≠ 0x80000000000000000 := by decide +kernel
def txtX : ByteArray := ⟨#[120]⟩
def txtN : ByteArray := ⟨#[]⟩
theorem sums_x : nums (txt txtX) ++ nums (txt txtN) ++ [lens txtX txtN] = [0x78000000000000000000000000000000, 0x80000000000000000] := by decide +kernel
theorem same_num_of' {a b : Nat → UInt8} (h : same 16 a b = true) : num a = num b := numTo_congr ((same_iff _ _ _).1 h)
theorem sum_x : same 16 (sumB (hashB (Ci.rounds noB)) txtX txtN) (sumB (hashB (Ci.rounds noB)) txtN txtN) = false := by
  have hh := num_lt (hashB (Ci.rounds noB))
  have h0 : num (hashB (Ci.rounds noB)) ≠ 0 := by rw [num_no]; decide
  have hX : Gh.Ok 0x78000000000000000000000000000000 := by unfold Gh.Ok; decide
  have hL : Gh.Ok 0x80000000000000000 := by unfold Gh.Ok; decide
  have e2 := (same_num_of' (sum_empty (hashB (Ci.rounds noB)) txtN txtN rfl rfl))
  cases hs : same 16 (sumB (hashB (Ci.rounds noB)) txtX txtN) (sumB (hashB (Ci.rounds noB)) txtN txtN) with
  | false => rfl
  | true =>
    exfalso
    have e1 := same_num_of' hs
    rw [e2, num_zero] at e1
    unfold sumB sumN at e1
    rw [sums_x] at e1
    have hok : Gh.Ok (Gh.fold (num (hashB (Ci.rounds noB))) 0 [0x78000000000000000000000000000000, 0x80000000000000000]) := Gh.fold_lt Gh.ok_zero _ (fun c hc => by
      simp only [List.mem_cons, List.not_mem_nil, or_false] at hc
      rcases hc with rfl | rfl
      · exact hX
      · exact hL)
    rw [num_unum hok] at e1
    have e3 : Gh.mul (Gh.mul (0 ^^^ 0x78000000000000000000000000000000) (num (hashB (Ci.rounds noB))) ^^^ 0x80000000000000000) (num (hashB (Ci.rounds noB))) = 0 := e1
    rw [Nat.zero_xor] at e3
    rcases Gh.no_div (Gh.xor_lt (Gh.mul_lt hX _) hL) hh e3 with h | h
    · have := Gh.xor_eq_zero h
      rw [num_no, ← Gh.quickMul_eq] at this
      exact part_no this
    · exact h0 h
theorem xor_cancel (a b c : UInt8) : (a ^^^ c = b ^^^ c) ↔ a = b := by
  constructor
  · intro h
    have : (a ^^^ c) ^^^ c = (b ^^^ c) ^^^ c := by rw [h]
    rwa [UInt8.xor_assoc, UInt8.xor_assoc, UInt8.xor_self, UInt8.xor_zero, UInt8.xor_zero] at this
  · rintro rfl; rfl
theorem tag_same (r v : Nat → UInt8) (a s b t : ByteArray) : same 16 (tagB r v a s) (tagB r v b t) = same 16 (sumB (hashB r) a s) (sumB (hashB r) b t) := by
  unfold same
  exact decide_eq_decide.2 ⟨fun h i hi => (xor_cancel _ _ _).1 (h i hi), fun h i hi => (xor_cancel _ _ _).2 (h i hi)⟩
theorem strS_none (r v : Nat → UInt8) (n : Nat) (s : ByteArray) (h : s.size = 0) : strS r v n s = ⟨#[]⟩ := by
  unfold strS; rw [h]; rfl
theorem sealS_size (r v : Nat → UInt8) (a s : ByteArray) : (sealS r v a s).size = s.size + 16 := by
  unfold sealS; rw [ByteArray.size_append, strS_size, tagS_size]
theorem cut_seal (r v : Nat → UInt8) (a s : ByteArray) : cutS (sealS r v a s) = strS r v 2 s := by
  unfold cutS
  rw [sealS_size]
  unfold sealS
  exact ByteArray.extract_append_eq_left (by rw [strS_size]; omega)
theorem end_seal (r v : Nat → UInt8) (a s : ByteArray) : endS (sealS r v a s) = tagS r v a (strS r v 2 s) := by
  unfold endS
  rw [sealS_size]
  unfold sealS
  exact ByteArray.extract_append_eq_right (by rw [strS_size]; omega) (by rw [strS_size, tagS_size])
theorem tagged_seal (r v : Nat → UInt8) (a b s : ByteArray) : tagged r v b (sealS r v a s) = same 16 (sumB (hashB r) b (strS r v 2 s)) (sumB (hashB r) a (strS r v 2 s)) := by
  unfold tagged
  rw [cut_seal, end_seal, ← tag_same r v]
  unfold same
  refine decide_eq_decide.2 ⟨fun h i hi => ?_, fun h i hi => ?_⟩
  · rw [h i hi]; exact ofText_strOf _ _ _ hi
  · rw [h i hi]; exact (ofText_strOf _ _ _ hi).symm
theorem tagged_own (r v : Nat → UInt8) (a s : ByteArray) : tagged r v a (sealS r v a s) = true := by rw [tagged_seal]; exact same_refl _ _
theorem empty_size : (⟨#[]⟩ : ByteArray).size = 0 := rfl
theorem seal_no0 : ofText (sealS (Ci.rounds noB) (ofText noIv) txtN txtN) 0 = 88 := by
  unfold sealS
  rw [strS_none _ _ _ _ (show txtN.size = 0 from rfl)]
  have e : (⟨#[]⟩ : ByteArray) ++ tagS (Ci.rounds noB) (ofText noIv) txtN ⟨#[]⟩ = tagS (Ci.rounds noB) (ofText noIv) txtN ⟨#[]⟩ := ByteArray.empty_append
  rw [e]
  unfold tagS
  rw [ofText_strOf _ _ _ (by omega)]
  unfold tagB Ci.xorB
  have h1 := (same_iff _ _ _).1 (sum_empty (hashB (Ci.rounds noB)) txtN ⟨#[]⟩ rfl rfl) 0 (by omega)
  have h2 : padB (Ci.rounds noB) (ofText noIv) 1 0 = 88 := by
    have h3 := (Ci.seal_congr (r := Ci.rounds noB) ctr_no) 0 (by omega)
    have h4 := Ci.osealed 0 (by omega)
    exact h3.trans h4
  rw [h1, h2]; rfl
theorem text_byte (s : ByteArray) (i : Nat) : B (ofText s i) = ((s.data.getD i 0).toNat : Int) := rfl

theorem indexS_text0 {P : Program} {w : World} (t : TypeId) (s : ByteArray) (hu : P.underlying t = some .string) (hk : 0 < s.size) : (indexS t (.string s) (.int .i64 0)).run P w = .ok (.int .u8 (B (ofText s 0))) w := indexS_text t s 0 hu hk
theorem indexS_blk0 {P : Program} {w : World} (t : TypeId) (n : Nat) (f : Nat → UInt8) (hu : P.underlying t = some (.array n (P.elem t))) (hs : (sizeOf (P.elem t)).run P w = .ok 1 w) (ha : (isAgg (P.elem t)).run P w = .ok false w) (hk : 0 < n) :
    (indexS t (.agg (blk n f)) (.int .i64 0)).run P w = .ok (.int .u8 (B (f 0))) w := indexS_blk t n f 0 hu hs ha hk
attribute [local go_sem] indexS_text0 indexS_blk0
def shortS : ByteArray := ⟨#[115, 104, 111, 114, 116]⟩
end Go.Proofs.Ytgaecjhghpkcoaa
end
