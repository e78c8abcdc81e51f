/- Texts folded in, as the program does it. No condition but that texts are shorter than 2 to 40 where their lengths are told. -/
import Derived.Test.YtepooocdpifcfaaGhMul
import Derived.Test.YtepooocdpifcfaaCiOf
namespace Go.Proofs.Ytepooocdpifcfaa
open Go.RowKit
attribute [local go_sem] B_xor B_or B_and
attribute [local go_sem] blk_set blk_size blk_get blk_getE upd_same oneCells_blk paste_blk cut_blk szOf
attribute [local go_sem high] paste_all cut_head
attribute [local go_sem] rowAt_alloc rowAt_drew rowAt_drewN isRow_alloc isRow_drew isRow_drewN freeRow_alloc freeRow_end freeRow_drew freeRow_drewN
attribute [local go_sem] setRow_alloc setRow_drew setRow_drewN setCell_drewN alloc_drewN rowAt_put isRow_setRow freeRow_put
attribute [local go_sem ↓] loadS_in storeS_in indexS_in copyS_in
attribute [local go_sem] loadS_row loadS_one storeS_row storeS_one indexS_blk copyS_rows run_equalIn_blk same_refl arrayAt_row
attribute [local go_sem] cell_row frozen_row st_setCell st_blk_ne stepAt stepUpon
attribute [local go_sem high] run_eql_blk run_neq_blk
attribute [local go_sem] U_xor U_or U_and U_and1 U_tail U_neg U_half U_shr U_shl8 U_shl63 U_of U_to pr_size pr_get0 pr_get1 pr_getE0 pr_getE1 pr_set0 pr_set1 pr_ne oneCells_pr paste_pr cut_pr
attribute [local go_sem] wide_size wide_get0 wide_get1 wide_getE0 wide_getE1 wide_ne oneCells_wide paste_wide cut_wide
attribute [local go_sem] size_wide agg_wide wide_build

/-! ### texts in numbers -/
/-- the numbers of a text, sixteen bytes each -/
def chunks : Nat → List UInt8 → List Nat
  | 0, _ => []
  | n + 1, l => if l = [] then [] else num (fun i => l.getD i 0) :: chunks n (l.drop 16)
def nums (l : List UInt8) : List Nat := chunks l.length l
theorem chunks_more : ∀ (n m : Nat) (l : List UInt8), l.length ≤ n → l.length ≤ m → chunks n l = chunks m l
  | 0, 0, _, _, _ => rfl
  | 0, m + 1, l, h, _ => by
    obtain rfl : l = [] := List.length_eq_zero_iff.1 (by omega)
    simp [chunks]
  | n + 1, 0, l, _, h => by
    obtain rfl : l = [] := List.length_eq_zero_iff.1 (by omega)
    simp [chunks]
  | n + 1, m + 1, l, h1, h2 => by
    simp only [chunks]
    by_cases h : l = []
    · rw [if_pos h, if_pos h]
    · rw [if_neg h, if_neg h]
      have hl : 0 < l.length := List.length_pos_iff.2 h
      rw [chunks_more n m (l.drop 16) (by simp; omega) (by simp; omega)]
theorem nums_nil : nums [] = [] := rfl
theorem nums_cons (l : List UInt8) (h : l ≠ []) : nums l = num (fun i => l.getD i 0) :: nums (l.drop 16) := by
  have hl : 0 < l.length := List.length_pos_iff.2 h
  unfold nums
  obtain ⟨n, hn⟩ : ∃ n, l.length = n + 1 := ⟨l.length - 1, by omega⟩
  conv => lhs; rw [hn]
  simp only [chunks, if_neg h]
  rw [chunks_more n (l.drop 16).length (l.drop 16) (by simp; omega) (Nat.le_refl _)]
theorem nums_ok : ∀ (n : Nat) (l : List UInt8), ∀ c ∈ chunks n l, Gh.Ok c
  | 0, _, c, h => by simp [chunks] at h
  | n + 1, l, c, h => by
    simp only [chunks] at h
    split at h
    · simp at h
    · rcases List.mem_cons.1 h with rfl | h
      · exact num_lt _
      · exact nums_ok n _ c h
/-- a text's bytes -/
def txt (s : ByteArray) : List UInt8 := s.data.toList
theorem txt_size (s : ByteArray) : (txt s).length = s.size := by
  show s.data.toList.length = s.data.size
  simp
theorem ofText_txt (s : ByteArray) : ofText s = fun i => (txt s).getD i 0 := by
  funext i
  simp only [ofText, txt, Array.getD_eq_getD_getElem?, List.getD_eq_getElem?_getD, Array.getElem?_toList]
theorem txt_drop (s : ByteArray) (n : Nat) : txt (s.extract n s.size) = (txt s).drop n := by
  unfold txt
  rw [ByteArray.data_extract, Array.toList_extract, List.extract_eq_take_drop, List.take_of_length_le]
  rw [List.length_drop]
  show s.data.toList.length - n ≤ s.data.size - n
  simp
theorem copyS_short {P : Program} {w : World} (dT sT ty : TypeId) (g dCap n : Nat) (s : ByteArray) (hu : P.underlying dT = some (.slice (P.elem dT))) (hs : (sizeOf (P.elem dT)).run P w = .ok 1 w)
    (hr : freeRow w g = true) (hg : n ≤ (rowAt w g).size) :
    (copyS #[dT, sT] ty #[.slice (some ⟨g, 0, none⟩) n dCap, .string s]).run P w = .ok (goInt ((min s.size n : Nat) : Int)) (w.setRow g (paste (rowAt w g) 0 (blk (min s.size n) (ofText s)))) := by
  have hc : ((s.extract 0 (min s.size n)).data.map fun b => Value.int .u8 (b.toNat : Int)) = blk (min s.size n) (ofText s) := by
    apply Array.ext
    · rw [blk_size, Array.size_map]
      show (s.extract 0 (min s.size n)).size = _
      rw [ByteArray.size_extract]; omega
    · intro i h1 h2
      rw [blk_size] at h2
      have hsz : s.data.size = s.size := rfl
      have hi : i < s.data.size := by omega
      have hb : (blk (min s.size n) (ofText s))[i]? = some (.int .u8 (B (ofText s i))) := blk_get _ _ _ h2
      rw [Array.getElem?_eq_getElem (by rw [blk_size]; exact h2)] at hb
      rw [Option.some.inj hb]
      simp [ofText, B, Array.getElem?_eq_getElem hi]
  have hst := run_storeCells_row (P := P) g 0 (blk (min s.size n) (ofText s)) hr (by rw [blk_size]; omega) (oneCells_blk _ _)
  have hm : Nat.min s.size n = min s.size n := rfl
  simp only [copyS, Builtin.copy_, List.getElem?_toArray, List.getElem?_cons_zero, List.getElem?_cons_succ, Sem.run_bind, run_underlying hu, Result.andThen_ok, Builtin.lenOf, Sem.run_pure, hs, Builtin.firstCells, hm, hc, hst]
theorem chunk_blk (s : ByteArray) : paste (blk 16 fun _ => 0) 0 (blk (min s.size 16) (ofText s)) = blk 16 (ofText s) := by
  rw [paste_blk _ _ _ _ _ (by omega)]
  refine blk_congr fun i hi => ?_
  unfold cpy
  by_cases h : i < s.size
  · rw [if_pos (by omega)]; congr 1; omega
  · rw [if_neg (by omega)]
    have hsz : s.data.size = s.size := rfl
    have : s.data.size ≤ i := by omega
    simp [ofText, Array.getElem?_eq_none this]

/-! ### a sum and the block that it is multiplied by -/
def run (s x : Nat) : Array Value := #[.int .u64 (U (hiU s)), .int .u64 (U (loU s)), .int .u64 (U (hiU x)), .int .u64 (U (loU x))]
theorem run_size (s x : Nat) : (run s x).size = 4 := by simp [run]
theorem oneCells_run (s x : Nat) : oneCells (run s x) = true := by simp [oneCells, run, Value.oneCell']
theorem cut_run0 (s x : Nat) : cut (run s x) 0 2 = wide s := by simp [run, cut, wide, pr]
theorem cut_run2 (s x : Nat) : cut (run s x) 2 4 = wide x := by simp [run, cut, wide, pr]
theorem paste_run (s x t : Nat) : paste (run s x) 0 (wide t) = run t x := by simp [run, paste, wide, pr]
theorem run_ne (s x : Nat) : (run s x = #[]) = False := by simp [run]
theorem build_run0 (a b s : Nat) : Array.foldl (fun (cs : Array Value) (x : Value × Nat) => cs.setIfInBounds x.snd x.fst) (run a b) (wide s).zipIdx 0 2 = run s b := by simp [run, wide, pr]
theorem build_run2 (a b s : Nat) : Array.foldl (fun (cs : Array Value) (x : Value × Nat) => cs.setIfInBounds (2 + x.snd) x.fst) (run a b) (wide s).zipIdx 0 2 = run a s := by simp [run, wide, pr]
theorem run_zero : #[Value.int .u64 0, .int .u64 0, .int .u64 0, .int .u64 0] = run 0 0 := by
  unfold run; rw [hi_zero, lo_zero]; rfl
theorem size_run (w : World) : (sizeOf 70).run Try.prog w = .ok 4 w := by simp [go_sem]
theorem agg_run (w : World) : (isAgg 70).run Try.prog w = .ok true w := by simp [go_sem]
attribute [local go_sem] build_run0 build_run2 run_size oneCells_run cut_run0 cut_run2 paste_run run_ne size_run agg_run copyS_short

theorem plus1_any (x y : Nat) (hx : Gh.Ok x) (hy : Gh.Ok y) (w : World) : Calls Try.prog 42 #[.agg (wide x), .agg (wide y), .int .u64 1] w fun e w' => e = .returned (.agg (wide (x ^^^ y))) ∧ Below w.heap.size w w' := by
  have h := plus_any x y hx hy 1 true rfl w
  rw [show U 1 = 1 from rfl] at h
  simpa using h
theorem St.head1 {w0 a : World} {g : Nat} {c : Array Value} {L : List (Nat × Array Value)} (h : St w0 ((g, c) :: L) a) : rowAt a g = c ∧ freeRow a g = true ∧ isRow a g = true ∧ w0.heap.size ≤ g ∧ g < a.heap.size := h.at (by simp)
theorem St.head2 {w0 a : World} {g1 g2 : Nat} {c1 c2 : Array Value} {L : List (Nat × Array Value)} (h : St w0 ((g1, c1) :: (g2, c2) :: L) a) :
    (rowAt a g1 = c1 ∧ freeRow a g1 = true ∧ isRow a g1 = true ∧ w0.heap.size ≤ g1 ∧ g1 < a.heap.size) ∧ (rowAt a g2 = c2 ∧ freeRow a g2 = true ∧ isRow a g2 = true ∧ w0.heap.size ≤ g2 ∧ g2 < a.heap.size) ∧ ((g1 = g2) = False) ∧ ((g2 = g1) = False) := by
  have hn := h.ne
  simp only [List.map_cons, List.nodup_cons, List.mem_cons, not_or] at hn
  refine ⟨h.at (by simp), h.at (by simp), ?_, ?_⟩ <;> simp only [eq_iff_iff, iff_false] <;> omega

set_option maxRecDepth 100000 in
set_option maxHeartbeats 1000000 in
theorem feed_any (w0 : World) (L : List (Nat × Array Value)) (g s x : Nat) (hs : Gh.Ok s) (hx : Gh.Ok x) (t : ByteArray) (ht : t.size ≤ maxLen) (w : World) (H : Hid (St w0 ((g, run s x) :: L) w)) :
    Calls Try.prog 41 #[.pointer (some ⟨g, 0, none⟩), .string t] w fun e w' => e = .returned (.tuple #[]) ∧ St w0 ((g, run (Gh.fold x s (nums (txt t))) x) :: L) w' := by
  have hz := zero16
  unfold maxLen at ht
  go_enter Try.func41, Try.ntmps41
  go_wp2_with fail
  go_loopw [1] (fun a wr => ∃ u : ByteArray, a = .string u ∧ u.size ≤ 9223372036854775807 ∧ ∃ s', Hid (Gh.Ok s' ∧ Gh.fold x s' (nums (txt u)) = Gh.fold x s (nums (txt t))) ∧ Hid (St w0 ((g, run s' x) :: L) wr)) (fun a _ => match a with | .string u => u.size | _ => 0)
  case atStart => exact ⟨t, rfl, ht, s, Lib.hid ⟨hs, rfl⟩, H⟩
  case round =>
    clear H
    obtain ⟨u, rfl, hu, s', HF, HR⟩ := hrel
    have hsum := HF.out.1
    have hC := HR.out
    by_cases h0 : 0 < u.size
    · have t1 : decide ((0 : Int) < (u.size : Int)) = true := by simp; omega
      have hch := chunk_blk u
      obtain ⟨r1, f1, i1, b1, l1⟩ := St.head1 hC
      go_wp2_with fail
      have HC := Lib.hid (HR.out.push (blk 16 (ofText u)) 23)
      clear r1 f1 i1 b1 l1 hch
      refine St.region_tail 15 HC.out (by kernel_rfl) (by decide +kernel) ?_
      (simp only [List.take, List.drop])
      (first
         | (apply head_skip rfl)
         | (apply head_step_g rfl
            focus
              intro w0' hC
              have hC' := Lib.hid hC
              obtain ⟨⟨r1, f1, i1, b1, l1⟩, ⟨r2, f2, i2, b2, l2⟩, m12, m21⟩ := St.head2 hC
              clear hC
              go_simp
              have hC := hC'.out
              (first
                 | with_reducible rfl
                 | (skip
                    (first
                       | refine (load_any _ _).mono ?_
                       | refine (plus1_any _ _ hsum (num_lt _) _).mono ?_
                       | refine (times_any _ _ (Gh.xor_lt hsum (num_lt _)) hx _).mono ?_)
                    rintro e w' ⟨rfl, hw⟩
                    exact ⟨rfl, St.call (by assumption) hw⟩)))
       try simp only [Act.put, List.setIfInBounds_toArray, List.set])
      (first
         | (apply head_skip rfl)
         | (apply head_step_g rfl
            focus
              intro w0' hC
              have hC' := Lib.hid hC
              obtain ⟨⟨r1, f1, i1, b1, l1⟩, ⟨r2, f2, i2, b2, l2⟩, m12, m21⟩ := St.head2 hC
              clear hC
              go_simp
              have hC := hC'.out
              (first
                 | with_reducible rfl
                 | (skip
                    (first
                       | refine (load_any _ _).mono ?_
                       | refine (plus1_any _ _ hsum (num_lt _) _).mono ?_
                       | refine (times_any _ _ (Gh.xor_lt hsum (num_lt _)) hx _).mono ?_)
                    rintro e w' ⟨rfl, hw⟩
                    exact ⟨rfl, St.call (by assumption) hw⟩)))
       try simp only [Act.put, List.setIfInBounds_toArray, List.set])
      (first
         | (apply head_skip rfl)
         | (apply head_step_g rfl
            focus
              intro w0' hC
              have hC' := Lib.hid hC
              obtain ⟨⟨r1, f1, i1, b1, l1⟩, ⟨r2, f2, i2, b2, l2⟩, m12, m21⟩ := St.head2 hC
              clear hC
              go_simp
              have hC := hC'.out
              (first
                 | with_reducible rfl
                 | (skip
                    (first
                       | refine (load_any _ _).mono ?_
                       | refine (plus1_any _ _ hsum (num_lt _) _).mono ?_
                       | refine (times_any _ _ (Gh.xor_lt hsum (num_lt _)) hx _).mono ?_)
                    rintro e w' ⟨rfl, hw⟩
                    exact ⟨rfl, St.call (by assumption) hw⟩)))
       try simp only [Act.put, List.setIfInBounds_toArray, List.set])
      (first
         | (apply head_skip rfl)
         | (apply head_step_g rfl
            focus
              intro w0' hC
              have hC' := Lib.hid hC
              obtain ⟨⟨r1, f1, i1, b1, l1⟩, ⟨r2, f2, i2, b2, l2⟩, m12, m21⟩ := St.head2 hC
              clear hC
              go_simp
              have hC := hC'.out
              (first
                 | with_reducible rfl
                 | (skip
                    (first
                       | refine (load_any _ _).mono ?_
                       | refine (plus1_any _ _ hsum (num_lt _) _).mono ?_
                       | refine (times_any _ _ (Gh.xor_lt hsum (num_lt _)) hx _).mono ?_)
                    rintro e w' ⟨rfl, hw⟩
                    exact ⟨rfl, St.call (by assumption) hw⟩)))
       try simp only [Act.put, List.setIfInBounds_toArray, List.set])
      (first
         | (apply head_skip rfl)
         | (apply head_step_g rfl
            focus
              intro w0' hC
              have hC' := Lib.hid hC
              obtain ⟨⟨r1, f1, i1, b1, l1⟩, ⟨r2, f2, i2, b2, l2⟩, m12, m21⟩ := St.head2 hC
              clear hC
              go_simp
              have hC := hC'.out
              (first
                 | with_reducible rfl
                 | (skip
                    (first
                       | refine (load_any _ _).mono ?_
                       | refine (plus1_any _ _ hsum (num_lt _) _).mono ?_
                       | refine (times_any _ _ (Gh.xor_lt hsum (num_lt _)) hx _).mono ?_)
                    rintro e w' ⟨rfl, hw⟩
                    exact ⟨rfl, St.call (by assumption) hw⟩)))
       try simp only [Act.put, List.setIfInBounds_toArray, List.set])
      (first
         | (apply head_skip rfl)
         | (apply head_step_g rfl
            focus
              intro w0' hC
              have hC' := Lib.hid hC
              obtain ⟨⟨r1, f1, i1, b1, l1⟩, ⟨r2, f2, i2, b2, l2⟩, m12, m21⟩ := St.head2 hC
              clear hC
              go_simp
              have hC := hC'.out
              (first
                 | with_reducible rfl
                 | (skip
                    (first
                       | refine (load_any _ _).mono ?_
                       | refine (plus1_any _ _ hsum (num_lt _) _).mono ?_
                       | refine (times_any _ _ (Gh.xor_lt hsum (num_lt _)) hx _).mono ?_)
                    rintro e w' ⟨rfl, hw⟩
                    exact ⟨rfl, St.call (by assumption) hw⟩)))
       try simp only [Act.put, List.setIfInBounds_toArray, List.set])
      (first
         | (apply head_skip rfl)
         | (apply head_step_g rfl
            focus
              intro w0' hC
              have hC' := Lib.hid hC
              obtain ⟨⟨r1, f1, i1, b1, l1⟩, ⟨r2, f2, i2, b2, l2⟩, m12, m21⟩ := St.head2 hC
              clear hC
              go_simp
              have hC := hC'.out
              (first
                 | with_reducible rfl
                 | (skip
                    (first
                       | refine (load_any _ _).mono ?_
                       | refine (plus1_any _ _ hsum (num_lt _) _).mono ?_
                       | refine (times_any _ _ (Gh.xor_lt hsum (num_lt _)) hx _).mono ?_)
                    rintro e w' ⟨rfl, hw⟩
                    exact ⟨rfl, St.call (by assumption) hw⟩)))
       try simp only [Act.put, List.setIfInBounds_toArray, List.set])
      (first
         | (apply head_skip rfl)
         | (apply head_step_g rfl
            focus
              intro w0' hC
              have hC' := Lib.hid hC
              obtain ⟨⟨r1, f1, i1, b1, l1⟩, ⟨r2, f2, i2, b2, l2⟩, m12, m21⟩ := St.head2 hC
              clear hC
              go_simp
              have hC := hC'.out
              (first
                 | with_reducible rfl
                 | (skip
                    (first
                       | refine (load_any _ _).mono ?_
                       | refine (plus1_any _ _ hsum (num_lt _) _).mono ?_
                       | refine (times_any _ _ (Gh.xor_lt hsum (num_lt _)) hx _).mono ?_)
                    rintro e w' ⟨rfl, hw⟩
                    exact ⟨rfl, St.call (by assumption) hw⟩)))
       try simp only [Act.put, List.setIfInBounds_toArray, List.set])
      (first
         | (apply head_skip rfl)
         | (apply head_step_g rfl
            focus
              intro w0' hC
              have hC' := Lib.hid hC
              obtain ⟨⟨r1, f1, i1, b1, l1⟩, ⟨r2, f2, i2, b2, l2⟩, m12, m21⟩ := St.head2 hC
              clear hC
              go_simp
              have hC := hC'.out
              (first
                 | with_reducible rfl
                 | (skip
                    (first
                       | refine (load_any _ _).mono ?_
                       | refine (plus1_any _ _ hsum (num_lt _) _).mono ?_
                       | refine (times_any _ _ (Gh.xor_lt hsum (num_lt _)) hx _).mono ?_)
                    rintro e w' ⟨rfl, hw⟩
                    exact ⟨rfl, St.call (by assumption) hw⟩)))
       try simp only [Act.put, List.setIfInBounds_toArray, List.set])
      (first
         | (apply head_skip rfl)
         | (apply head_step_g rfl
            focus
              intro w0' hC
              have hC' := Lib.hid hC
              obtain ⟨⟨r1, f1, i1, b1, l1⟩, ⟨r2, f2, i2, b2, l2⟩, m12, m21⟩ := St.head2 hC
              clear hC
              go_simp
              have hC := hC'.out
              (first
                 | with_reducible rfl
                 | (skip
                    (first
                       | refine (load_any _ _).mono ?_
                       | refine (plus1_any _ _ hsum (num_lt _) _).mono ?_
                       | refine (times_any _ _ (Gh.xor_lt hsum (num_lt _)) hx _).mono ?_)
                    rintro e w' ⟨rfl, hw⟩
                    exact ⟨rfl, St.call (by assumption) hw⟩)))
       try simp only [Act.put, List.setIfInBounds_toArray, List.set])
      (first
         | (apply head_skip rfl)
         | (apply head_step_g rfl
            focus
              intro w0' hC
              have hC' := Lib.hid hC
              obtain ⟨⟨r1, f1, i1, b1, l1⟩, ⟨r2, f2, i2, b2, l2⟩, m12, m21⟩ := St.head2 hC
              clear hC
              go_simp
              have hC := hC'.out
              (first
                 | with_reducible rfl
                 | (skip
                    (first
                       | refine (load_any _ _).mono ?_
                       | refine (plus1_any _ _ hsum (num_lt _) _).mono ?_
                       | refine (times_any _ _ (Gh.xor_lt hsum (num_lt _)) hx _).mono ?_)
                    rintro e w' ⟨rfl, hw⟩
                    exact ⟨rfl, St.call (by assumption) hw⟩)))
       try simp only [Act.put, List.setIfInBounds_toArray, List.set])
      (first
         | (apply head_skip rfl)
         | (apply head_step_g rfl
            focus
              intro w0' hC
              have hC' := Lib.hid hC
              obtain ⟨⟨r1, f1, i1, b1, l1⟩, ⟨r2, f2, i2, b2, l2⟩, m12, m21⟩ := St.head2 hC
              clear hC
              go_simp
              have hC := hC'.out
              (first
                 | with_reducible rfl
                 | (skip
                    (first
                       | refine (load_any _ _).mono ?_
                       | refine (plus1_any _ _ hsum (num_lt _) _).mono ?_
                       | refine (times_any _ _ (Gh.xor_lt hsum (num_lt _)) hx _).mono ?_)
                    rintro e w' ⟨rfl, hw⟩
                    exact ⟨rfl, St.call (by assumption) hw⟩)))
       try simp only [Act.put, List.setIfInBounds_toArray, List.set])
      (first
         | (apply head_skip rfl)
         | (apply head_step_g rfl
            focus
              intro w0' hC
              have hC' := Lib.hid hC
              obtain ⟨⟨r1, f1, i1, b1, l1⟩, ⟨r2, f2, i2, b2, l2⟩, m12, m21⟩ := St.head2 hC
              clear hC
              go_simp
              have hC := hC'.out
              (first
                 | with_reducible rfl
                 | (skip
                    (first
                       | refine (load_any _ _).mono ?_
                       | refine (plus1_any _ _ hsum (num_lt _) _).mono ?_
                       | refine (times_any _ _ (Gh.xor_lt hsum (num_lt _)) hx _).mono ?_)
                    rintro e w' ⟨rfl, hw⟩
                    exact ⟨rfl, St.call (by assumption) hw⟩)))
       try simp only [Act.put, List.setIfInBounds_toArray, List.set])
      (first
         | (apply head_skip rfl)
         | (apply head_step_g rfl
            focus
              intro w0' hC
              have hC' := Lib.hid hC
              obtain ⟨⟨r1, f1, i1, b1, l1⟩, ⟨r2, f2, i2, b2, l2⟩, m12, m21⟩ := St.head2 hC
              clear hC
              go_simp
              have hC := hC'.out
              (first
                 | with_reducible rfl
                 | (skip
                    (first
                       | refine (load_any _ _).mono ?_
                       | refine (plus1_any _ _ hsum (num_lt _) _).mono ?_
                       | refine (times_any _ _ (Gh.xor_lt hsum (num_lt _)) hx _).mono ?_)
                    rintro e w' ⟨rfl, hw⟩
                    exact ⟨rfl, St.call (by assumption) hw⟩)))
       try simp only [Act.put, List.setIfInBounds_toArray, List.set])
      (first
         | (apply head_skip rfl)
         | (apply head_step_g rfl
            focus
              intro w0' hC
              have hC' := Lib.hid hC
              obtain ⟨⟨r1, f1, i1, b1, l1⟩, ⟨r2, f2, i2, b2, l2⟩, m12, m21⟩ := St.head2 hC
              clear hC
              go_simp
              have hC := hC'.out
              (first
                 | with_reducible rfl
                 | (skip
                    (first
                       | refine (load_any _ _).mono ?_
                       | refine (plus1_any _ _ hsum (num_lt _) _).mono ?_
                       | refine (times_any _ _ (Gh.xor_lt hsum (num_lt _)) hx _).mono ?_)
                    rintro e w' ⟨rfl, hw⟩
                    exact ⟨rfl, St.call (by assumption) hw⟩)))
       try simp only [Act.put, List.setIfInBounds_toArray, List.set])
      refine wpQuiet_nil ?_
      intro w1 hC
      obtain ⟨⟨r1, f1, i1, b1, l1⟩, ⟨r2, f2, i2, b2, l2⟩, m12, m21⟩ := St.head2 hC
      have HC := Lib.hid ((hC.swap.set_head (run (Gh.mul (s' ^^^ num (ofText u)) x) x)).swap.tail)
      clear hC
      go_wp2_with fail
      have e1 : txt (u.extract (min u.size 16) u.size) = (txt u).drop 16 := by
        rw [txt_drop]
        have := txt_size u
        by_cases h16 : u.size ≤ 16
        · rw [List.drop_of_length_le (by omega), List.drop_of_length_le (by omega)]
        · rw [show min u.size 16 = 16 by omega]
      have e2 : Gh.fold x (Gh.mul (s' ^^^ num (ofText u)) x) (nums (txt (u.extract (min u.size 16) u.size))) = Gh.fold x s (nums (txt t)) := by
        rw [← HF.out.2, nums_cons (txt u) (fun e => by have := txt_size u; rw [e] at this; simp at this; omega), e1, ofText_txt]
        rfl
      have e3 : (u.extract (min u.size 16) u.size).size = u.size - min u.size 16 := by rw [ByteArray.size_extract]; omega
      exact ⟨⟨_, rfl, by omega, _, Lib.hid ⟨Gh.mul_lt (Gh.xor_lt hsum (num_lt _)) x, e2⟩, HC⟩, by show (u.extract (min u.size 16) u.size).size < u.size; omega⟩
    · have t1 : decide ((0 : Int) < (u.size : Int)) = false := decide_eq_false (by omega)
      have e1 : txt u = [] := List.length_eq_zero_iff.1 (by rw [txt_size]; omega)
      have e2 := HF.out.2
      rw [e1] at e2
      have e3 : s' = Gh.fold x s (nums (txt t)) := e2
      go_wp2_with fail
      go_end0
      exact ⟨rfl, by rw [← e3]; exact HR.out⟩

theorem fold_ok (x s : Nat) (l : List UInt8) (hs : Gh.Ok s) : Gh.Ok (Gh.fold x s (nums l)) := Gh.fold_lt hs _ (nums_ok _ _)
/-- a text folded into a sum -/
def foldB (h sum : Nat → UInt8) (t : ByteArray) : Nat → UInt8 := unum (Gh.fold (num h) (num sum) (nums (txt t)))
set_option maxRecDepth 100000 in
set_option maxHeartbeats 1000000 in
theorem ghFold_any (h s : Nat → UInt8) (t : ByteArray) (ht : t.size ≤ maxLen) (w : World) : Calls Try.prog 19 #[.agg (blk 16 h), .agg (blk 16 s), .string t] w fun e w' => e = .returned (.agg (blk 16 (foldB h s t))) ∧ Below w.heap.size w w' := by
  have hz := zero16
  have hz2 := run_zero
  go_enter Try.func19, Try.ntmps19
  go_wp2_with fail
  refine St.region_float (w0 := w) (L := [(w.heap.size + 1 + 1, blk 16 fun _ => 0), (w.heap.size + 1, blk 16 s), (w.heap.size, blk 16 h)]) 5 7 (run 0 0) 70 ((((St.nil w).pushA _ _ rfl).pushA _ _ (by simp)).pushA _ _ (by simp)) _ (by kernel_rfl) (by decide +kernel) rfl (fun w a => by simp [go_sem, ptrTo, hz2]) ?_
  (simp only [List.take])
  (apply walkB_step
   focus
     intro w0 hC
     have hC' := Lib.hid hC
     obtain ⟨⟨r1, f1, i1, b1, l1⟩, ⟨r2, f2, i2, b2, l2⟩, ⟨r3, f3, i3, b3, l3⟩, m12, m21, m13, m31, m23, m32⟩ := St.facts3 hC
     clear hC
     go_simp
     (first
        | with_reducible rfl
        | exact load_any _ _)
   try simp only [Act.put, List.setIfInBounds_toArray, List.set])
  (apply walkB_step
   focus
     intro w0 hC
     have hC' := Lib.hid hC
     obtain ⟨⟨r1, f1, i1, b1, l1⟩, ⟨r2, f2, i2, b2, l2⟩, ⟨r3, f3, i3, b3, l3⟩, m12, m21, m13, m31, m23, m32⟩ := St.facts3 hC
     clear hC
     go_simp
     (first
        | with_reducible rfl
        | exact load_any _ _)
   try simp only [Act.put, List.setIfInBounds_toArray, List.set])
  (apply walkB_step
   focus
     intro w0 hC
     have hC' := Lib.hid hC
     obtain ⟨⟨r1, f1, i1, b1, l1⟩, ⟨r2, f2, i2, b2, l2⟩, ⟨r3, f3, i3, b3, l3⟩, m12, m21, m13, m31, m23, m32⟩ := St.facts3 hC
     clear hC
     go_simp
     (first
        | with_reducible rfl
        | exact load_any _ _)
   try simp only [Act.put, List.setIfInBounds_toArray, List.set])
  (apply walkB_step
   focus
     intro w0 hC
     have hC' := Lib.hid hC
     obtain ⟨⟨r1, f1, i1, b1, l1⟩, ⟨r2, f2, i2, b2, l2⟩, ⟨r3, f3, i3, b3, l3⟩, m12, m21, m13, m31, m23, m32⟩ := St.facts3 hC
     clear hC
     go_simp
     (first
        | with_reducible rfl
        | exact load_any _ _)
   try simp only [Act.put, List.setIfInBounds_toArray, List.set])
  (apply walkB_step
   focus
     intro w0 hC
     have hC' := Lib.hid hC
     obtain ⟨⟨r1, f1, i1, b1, l1⟩, ⟨r2, f2, i2, b2, l2⟩, ⟨r3, f3, i3, b3, l3⟩, m12, m21, m13, m31, m23, m32⟩ := St.facts3 hC
     clear hC
     go_simp
     (first
        | with_reducible rfl
        | exact load_any _ _)
   try simp only [Act.put, List.setIfInBounds_toArray, List.set])
  refine walkB_nil ?_
  intro w1 g hC
  unfold ptrTo
  (have HC := Lib.hid hC
   have sos := hC.below.os
   obtain ⟨⟨r1, f1, i1, b1, l1⟩, ⟨r2, f2, i2, b2, l2⟩, ⟨r3, f3, i3, b3, l3⟩, ⟨r4, f4, i4, b4, l4⟩, m12, m21, m13, m31, m14, m41, m23, m32, m24, m42, m34, m43⟩ := St.facts4 hC
   clear hC)
  (simp only [List.drop, List.setIfInBounds_toArray, List.set])
  go_wp2_with fail
  have HC := Lib.hid (HC.out.set_head (run (num s) (num h)))
  (clear r1 f1 i1 b1 l1 r2 f2 i2 b2 l2 r3 f3 i3 b3 l3 r4 f4 i4 b4 l4 m12 m21 m13 m31 m14 m41 m23 m32 m24 m42 m34 m43 sos)
  refine (feed_any w _ g _ _ (num_lt s) (num_lt h) t ht _ HC).mono ?_; rintro e w2 ⟨rfl, hC⟩
  have hok := fold_ok (num h) (num s) (txt t) (num_lt s)
  clear HC
  (have HC := Lib.hid hC
   have sos := hC.below.os
   obtain ⟨⟨r1, f1, i1, b1, l1⟩, ⟨r2, f2, i2, b2, l2⟩, ⟨r3, f3, i3, b3, l3⟩, ⟨r4, f4, i4, b4, l4⟩, m12, m21, m13, m31, m14, m41, m23, m32, m24, m42, m34, m43⟩ := St.facts4 hC
   clear hC)
  go_wp2_with fail
  refine (block_any _ hok _).mono ?_; rintro e w3 ⟨rfl, hw⟩
  have HC := Lib.hid (HC.out.call hw)
  clear hw
  (clear r1 f1 i1 b1 l1 r2 f2 i2 b2 l2 r3 f3 i3 b3 l3 r4 f4 i4 b4 l4 m12 m21 m13 m31 m14 m41 m23 m32 m24 m42 m34 m43 sos)
  have hC := HC.out
  (have HC := Lib.hid hC
   have sos := hC.below.os
   obtain ⟨⟨r1, f1, i1, b1, l1⟩, ⟨r2, f2, i2, b2, l2⟩, ⟨r3, f3, i3, b3, l3⟩, ⟨r4, f4, i4, b4, l4⟩, m12, m21, m13, m31, m14, m41, m23, m32, m24, m42, m34, m43⟩ := St.facts4 hC
   clear hC)
  go_wp2_with fail
  refine bodyPost_ret (results_row rfl _ (w.heap.size + 1 + 1) rfl (blk 16 (foldB h s t)) ?_ ?_ ?_ ?_) rfl ⟨rfl, ?_⟩
  · simp [go_sem, *]; rfl
  · simp [go_sem]
  · simp [go_sem]
  · simp [go_sem, *]
  · exact below_setRow' HC.out.below (by omega) _
end Go.Proofs.Ytepooocdpifcfaa
