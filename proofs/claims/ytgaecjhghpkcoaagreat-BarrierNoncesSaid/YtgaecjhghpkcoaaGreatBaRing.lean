/- padlocklaw21's Ring, opened. -/
import Derived.Test.YtgaecjhghpkcoaaGreatBar14
import Derived.Test.YtgaecjhghpkcoaaGreatKeAwake
namespace Go.Proofs.YtgaecjhghpkcoaaGreat
open Go.RowKit
attribute [local go_sem] B_xor B_or B_and
attribute [local go_sem] blk_set blk_size blk_get blk_getE upd_same oneCells_blk paste_blk cut_blk szOf
attribute [local go_sem high] paste_all cut_head
attribute [local go_sem] rowAt_alloc rowAt_drew rowAt_drewN isRow_alloc isRow_drew isRow_drewN freeRow_alloc freeRow_end freeRow_drew freeRow_drewN
attribute [local go_sem] setRow_alloc setRow_drew setRow_drewN setCell_drewN alloc_drewN rowAt_put isRow_setRow freeRow_put
attribute [local go_sem ↓] loadS_in storeS_in indexS_in copyS_in
attribute [local go_sem] loadS_row loadS_one storeS_row storeS_one indexS_blk copyS_rows run_equalIn_blk same_refl arrayAt_row
attribute [local go_sem] cell_row frozen_row st_setCell st_blk_ne stepAt stepUpon
attribute [local go_sem high] run_eql_blk run_neq_blk
attribute [local go_sem ↓] convBS_in
attribute [local go_sem] convBS_row convBS_nil allBytes_blk bytesOf_blk
attribute [local go_sem] rg_size rg_get0 rg_getE0 rg_ne rg_set0 rg_one rg_cut rg_key rg_put rg_paste part_rg0 part_rg1
attribute [local go_sem] size_cn agg_cn cn_size cn_get0 cn_get1 cn_getE0 cn_getE1 cn_set0 cn_set1 cn_ne cn_one cn_cut cn_paste

theorem St.join {w0 a b : World} {L L' : List (Nat × Array Value)} (h : St w0 L a) (k : St a L' b) : St w0 (L' ++ L) b := by
  have hc := h.call k.below
  refine ⟨hc.below, ?_, ?_⟩
  · rw [List.map_append, List.nodup_append]
    refine ⟨k.ne, h.ne, fun x hx y hy e => ?_⟩
    obtain ⟨x', hx', rfl⟩ := List.mem_map.1 hx
    obtain ⟨y', hy', rfl⟩ := List.mem_map.1 hy
    have h1 := (k.rows x' hx').1.1
    have h2 := (h.rows y' hy').1.2
    omega
  · intro x hx
    rcases List.mem_append.1 hx with hx | hx
    · obtain ⟨⟨h1, h2⟩, h3⟩ := k.rows x hx
      exact ⟨⟨Nat.le_trans h.below.size h1, h2⟩, h3⟩
    · exact hc.rows x hx
theorem Sk.join {v w0 a b : World} {L L' : List (Nat × Array Value)} (h : Sk v w0 L a) (k : St a L' b) : Sk v w0 (L' ++ L) b := ⟨h.toSt.join k, Mk.call k.below h.kept⟩
theorem Sk.perm {v w0 a : World} {L L' : List (Nat × Array Value)} (h : Sk v w0 L a) (hp : L'.Perm L) : Sk v w0 L' a := ⟨h.toSt.perm hp, h.kept⟩
/-- a list of keys that is handed over: nil, or in one of the blocks that are told -/
def KeysIn (L : List (Nat × Array Value)) (v : Value) (n : Nat) (f : Nat → UInt8) : Prop := (v = .slice none 0 0 ∧ n = 0) ∨ ∃ g c F, v = .slice (some ⟨g, 0, none⟩) n c ∧ n ≤ c ∧ (∀ i, i < n * 16 → F i = f i) ∧ (g, blk (c * 16) F) ∈ L
theorem KeysIn.keys {w0 w : World} {L : List (Nat × Array Value)} {v : Value} {n : Nat} {f : Nat → UInt8} (h : KeysIn L v n f) (hC : St w0 L w) : Keys16 w v n f := by
  rcases h with h | ⟨g, c, F, h1, h2, h3, h4⟩
  · exact .inl h
  · rw [h1]; exact Keys16.of hC h4 h2 h3
theorem KeysIn.mono {L L' : List (Nat × Array Value)} {v : Value} {n : Nat} {f : Nat → UInt8} (h : KeysIn L v n f) (hL : ∀ x ∈ L, x ∈ L') : KeysIn L' v n f := by
  rcases h with h | ⟨g, c, F, h1, h2, h3, h4⟩
  · exact .inl h
  · exact .inr ⟨g, c, F, h1, h2, h3, hL _ h4⟩
/-- the bytes of the keys of a master, so many of them -/
def ringF (m : Nat → UInt8) : Nat → Nat → UInt8
  | 0 => fun _ => 0
  | k + 1 => addB (ringF m k) k (deriveB m (k + 1))
set_option maxRecDepth 100000 in
set_option maxHeartbeats 4000000 in
/-- both lists of keys of a master -/
theorem ringLaw_any (m : Nat → UInt8) (t : Nat) (h6 : t ≤ 6) (w : World) : Calls Tryz.prog 11 #[.agg (blk 16 m), .int .i64 (t : Int)] w fun e w' => ∃ v L, e = .returned (.tuple #[.agg (rg t (ringF m t)), v]) ∧ KeysIn L v t (ringF m t) ∧ St w L w' := by
  have hz := zero16
  have hz2 := zero97
  have t6 : (t : Int) ≤ 6 := by omega
  have HC := Lib.hid ((((St.nil w).pushA (blk 16 m) 22 rfl).pushA (rg 0 fun _ => 0) 44 (g := w.heap.size + 1) (by simp)).pushA (rg 0 fun _ => 0) 44 (g := w.heap.size + 1 + 1) (by simp))
  go_enter Tryz.func11, Tryz.ntmps11
  go_wp2_with fail
  go_loopw [7, 8] (fun lv i wr => ∃ j : Nat, j ≤ t ∧ i = .int .i64 (j : Int) ∧ ∃ L, Hid (KeysIn L lv j (ringF m j)) ∧ Hid (St w ((w.heap.size + 1 + 1, rg j (ringF m j)) :: (w.heap.size, blk 16 m) :: (w.heap.size + 1, rg 0 fun _ => 0) :: L) wr)) (fun _ i _ => t - (intOf i).toNat)
  case atStart => exact ⟨0, by omega, rfl, [], Lib.hid (.inl ⟨rfl, rfl⟩), Lib.hid (HC.out.pick [0, 2, 1] (by decide) rfl)⟩
  case round =>
    clear HC
    obtain ⟨j, hj, rfl, L, HL, HC⟩ := hrel
    by_cases hlt : j < t
    · have d1 : (j : Int) < (t : Int) := by omega
      (obtain ⟨⟨r1, f1, i1, b1, l1⟩, ⟨r2, f2, i2, b2, l2⟩, m12, m21⟩ := St.facts2 (HC.out.pick [0, 1] (by decide) rfl))
      by_cases h0 : j = 0
      · subst h0
        go_wp2_with fail
        (clear r1 f1 i1 b1 l1 r2 f2 i2 b2 l2 m12 m21)
        refine (new_any m _).mono ?_; rintro e w3 ⟨rfl, hw⟩
        have HC := Lib.hid (HC.out.call hw)
        clear hw
        (obtain ⟨⟨r1, f1, i1, b1, l1⟩, ⟨r2, f2, i2, b2, l2⟩, m12, m21⟩ := St.facts2 (HC.out.pick [0, 1] (by decide) rfl))
        go_wp2_with fail
        (clear r1 f1 i1 b1 l1 r2 f2 i2 b2 l2 m12 m21)
        have HC := Lib.hid (HC.out.set_head (rg 1 (ringF m 1)) (by rw [rg_size, rg_size]))
        ((obtain ⟨⟨r1, f1, i1, b1, l1⟩, ⟨r2, f2, i2, b2, l2⟩, m12, m21⟩ := St.facts2 (HC.out.pick [0, 1] (by decide) rfl))
         refine (refRotate_yes _ _ _ m (by omega) _ _ _ (HL.out.keys (HC.out.perm (L' := _ :: _ :: _ :: L) (.refl _)).tail.tail.tail) (St.nil _)).mono ?_; rintro e w4 ⟨g, c, F, rfl, h1, h2, hw⟩
         have HC := Lib.hid (HC.out.join hw)
         have H1 := Lib.hid h1
         have H2 := Lib.hid h2
         clear h1 h2 hw
         (clear r1 f1 i1 b1 l1 r2 f2 i2 b2 l2 m12 m21)
         have HC := Lib.hid (HC.out.perm (L' := (w.heap.size + 1 + 1, _) :: (w.heap.size, blk 16 m) :: (w.heap.size + 1, rg 0 fun _ => 0) :: (g, blk (c * 16) F) :: L) (List.perm_middle (l₁ := [_, _, _])))
         go_wp2_with fail
         go_roundw)
        case rel => exact ⟨1, by omega, by go_num, (g, blk (c * 16) F) :: L, Lib.hid (.inr ⟨g, c, F, rfl, H1.out, H2.out, .head _⟩), HC⟩
        case measure => simp [intOf]; omega
      · have d2 : ((j : Int) == 0) = false := by rw [beq_eq_false_iff_ne]; omega
        go_wp2_with fail
        (clear r1 f1 i1 b1 l1 r2 f2 i2 b2 l2 m12 m21)
        refine (rotate_yes j (ringF m j) m (by omega) _).mono ?_; rintro e w3 ⟨rfl, hw⟩
        have HC := Lib.hid (HC.out.call hw)
        clear hw
        (obtain ⟨⟨r1, f1, i1, b1, l1⟩, ⟨r2, f2, i2, b2, l2⟩, m12, m21⟩ := St.facts2 (HC.out.pick [0, 1] (by decide) rfl))
        go_wp2_with fail
        (clear r1 f1 i1 b1 l1 r2 f2 i2 b2 l2 m12 m21)
        have HC := Lib.hid (HC.out.set_head (rg (j + 1) (ringF m (j + 1))) (by rw [rg_size, rg_size]))
        ((obtain ⟨⟨r1, f1, i1, b1, l1⟩, ⟨r2, f2, i2, b2, l2⟩, m12, m21⟩ := St.facts2 (HC.out.pick [0, 1] (by decide) rfl))
         refine (refRotate_yes _ _ _ m (by omega) _ _ _ (HL.out.keys (HC.out.perm (L' := _ :: _ :: _ :: L) (.refl _)).tail.tail.tail) (St.nil _)).mono ?_; rintro e w4 ⟨g, c, F, rfl, h1, h2, hw⟩
         have HC := Lib.hid (HC.out.join hw)
         have H1 := Lib.hid h1
         have H2 := Lib.hid h2
         clear h1 h2 hw
         (clear r1 f1 i1 b1 l1 r2 f2 i2 b2 l2 m12 m21)
         have HC := Lib.hid (HC.out.perm (L' := (w.heap.size + 1 + 1, _) :: (w.heap.size, blk 16 m) :: (w.heap.size + 1, rg 0 fun _ => 0) :: (g, blk (c * 16) F) :: L) (List.perm_middle (l₁ := [_, _, _])))
         go_wp2_with fail
         go_roundw)
        case rel => exact ⟨j + 1, by omega, by go_num, (g, blk (c * 16) F) :: L, Lib.hid (.inr ⟨g, c, F, rfl, H1.out, H2.out, .head _⟩), HC⟩
        case measure => simp [intOf]; omega
    · obtain rfl : j = t := by omega
      (obtain ⟨⟨r1, f1, i1, b1, l1⟩, ⟨r2, f2, i2, b2, l2⟩, ⟨r3, f3, i3, b3, l3⟩, m12, m21, m13, m31, m23, m32⟩ := St.facts3 (HC.out.pick [0, 1, 2] (by decide) rfl))
      go_wp2_with fail
      refine bodyPost_ret (results_pair rfl _ (w.heap.size + 1) rfl (rg j (ringF m j)) ?_ ?_ ?_ ?_ _ rfl) rfl ⟨_, (w.heap.size + 1, rg j (ringF m j)) :: (w.heap.size + 1 + 1, rg j (ringF m j)) :: (w.heap.size, blk 16 m) :: L, rfl, HL.out.mono fun x hx => .tail _ (.tail _ (.tail _ hx)), ?_⟩
      · simp [go_sem, *]
      · simp [go_sem]
      · simp [go_sem]
      · simp [go_sem, *]
      · exact (HC.out.perm (L' := (w.heap.size + 1, rg 0 fun _ => 0) :: (w.heap.size + 1 + 1, rg j (ringF m j)) :: (w.heap.size, blk 16 m) :: L) (List.perm_middle (l₁ := [_, _])).symm).set_head (rg j (ringF m j)) (by rw [rg_size, rg_size])
end Go.Proofs.YtgaecjhghpkcoaaGreat
