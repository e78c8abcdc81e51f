/- padlocklaw21's Ring, opened. * padlocklaw21's opened, early, over. * A barrier of either kind, with its notes, in one fact; what is put and got, in one word for both kinds. * Notes that are forked: others like them; maps.Clone, laid at this program. * What is put is got, in plain words, also by rings that have more keys, or are taken of their text. No program stands in this text. * What else is done with a barrier and its notes, each where it goes well. -/
import Derived.Test.YtgaecjhghpkcoaaGreatMBar2
import Derived.Test.YtgaecjhghpkcoaaGreatMKeyRef
import Derived.Deep.Slices
import Derived.Shelf.SlMaps.Clone
section
namespace Go.Proofs.YtgaecjhghpkcoaaGreat
open Go.RowKit
attribute [local go_sem] B_xor B_or B_and
attribute [local go_sem] blk_set blk_size blk_get blk_getE upd_same oneCells_blk paste_blk cut_blk szOf
attribute [local go_sem high] paste_all cut_head
attribute [local go_sem] rowAt_alloc rowAt_drew rowAt_drewN isRow_alloc isRow_drew isRow_drewN freeRow_alloc freeRow_end freeRow_drew freeRow_drewN
attribute [local go_sem] setRow_alloc setRow_drew setRow_drewN setCell_drewN alloc_drewN rowAt_put isRow_setRow freeRow_put
attribute [local go_sem ↓] loadS_in storeS_in indexS_in copyS_in
attribute [local go_sem] loadS_row loadS_one storeS_row storeS_one indexS_blk copyS_rows run_equalIn_blk same_refl arrayAt_row
attribute [local go_sem] cell_row frozen_row st_setCell st_blk_ne stepAt stepUpon
attribute [local go_sem high] run_eql_blk run_neq_blk
attribute [local go_sem ↓] convBS_in
attribute [local go_sem] convBS_row convBS_nil allBytes_blk bytesOf_blk
attribute [local go_sem] rg_size rg_get0 rg_getE0 rg_ne rg_set0 rg_one rg_cut rg_key rg_put rg_paste part_rg0 part_rg1
attribute [local go_sem] size_cn agg_cn cn_size cn_get0 cn_get1 cn_getE0 cn_getE1 cn_set0 cn_set1 cn_ne cn_one cn_cut cn_paste

theorem St.join {w0 a b : World} {L L' : List (Nat × Array Value)} (h : St w0 L a) (k : St a L' b) : St w0 (L' ++ L) b := by
  have hc := h.call k.below
  refine ⟨hc.below, ?_, ?_⟩
  · rw [List.map_append, List.nodup_append]
    refine ⟨k.ne, h.ne, fun x hx y hy e => ?_⟩
    obtain ⟨x', hx', rfl⟩ := List.mem_map.1 hx
    obtain ⟨y', hy', rfl⟩ := List.mem_map.1 hy
    have h1 := (k.rows x' hx').1.1
    have h2 := (h.rows y' hy').1.2
    omega
  · intro x hx
    rcases List.mem_append.1 hx with hx | hx
    · obtain ⟨⟨h1, h2⟩, h3⟩ := k.rows x hx
      exact ⟨⟨Nat.le_trans h.below.size h1, h2⟩, h3⟩
    · exact hc.rows x hx
theorem Sk.join {v w0 a b : World} {L L' : List (Nat × Array Value)} (h : Sk v w0 L a) (k : St a L' b) : Sk v w0 (L' ++ L) b := ⟨h.toSt.join k, Mk.call k.below h.kept⟩
theorem Sk.perm {v w0 a : World} {L L' : List (Nat × Array Value)} (h : Sk v w0 L a) (hp : L'.Perm L) : Sk v w0 L' a := ⟨h.toSt.perm hp, h.kept⟩
/-- a list of keys that is handed over: nil, or in one of the blocks that are told -/
def KeysIn (L : List (Nat × Array Value)) (v : Value) (n : Nat) (f : Nat → UInt8) : Prop := (v = .slice none 0 0 ∧ n = 0) ∨ ∃ g c F, v = .slice (some ⟨g, 0, none⟩) n c ∧ n ≤ c ∧ (∀ i, i < n * 16 → F i = f i) ∧ (g, blk (c * 16) F) ∈ L
theorem KeysIn.keys {w0 w : World} {L : List (Nat × Array Value)} {v : Value} {n : Nat} {f : Nat → UInt8} (h : KeysIn L v n f) (hC : St w0 L w) : Keys16 w v n f := by
  rcases h with h | ⟨g, c, F, h1, h2, h3, h4⟩
  · exact .inl h
  · rw [h1]; exact Keys16.of hC h4 h2 h3
theorem KeysIn.mono {L L' : List (Nat × Array Value)} {v : Value} {n : Nat} {f : Nat → UInt8} (h : KeysIn L v n f) (hL : ∀ x ∈ L, x ∈ L') : KeysIn L' v n f := by
  rcases h with h | ⟨g, c, F, h1, h2, h3, h4⟩
  · exact .inl h
  · exact .inr ⟨g, c, F, h1, h2, h3, hL _ h4⟩
/-- the bytes of the keys of a master, so many of them -/
def ringF (m : Nat → UInt8) : Nat → Nat → UInt8
  | 0 => fun _ => 0
  | k + 1 => addB (ringF m k) k (deriveB m (k + 1))
set_option maxRecDepth 100000 in
set_option maxHeartbeats 4000000 in
/-- both lists of keys of a master -/
theorem ringLaw_any (m : Nat → UInt8) (t : Nat) (h6 : t ≤ 6) (w : World) : Calls Tryz.prog 11 #[.agg (blk 16 m), .int .i64 (t : Int)] w fun e w' => ∃ v L, e = .returned (.tuple #[.agg (rg t (ringF m t)), v]) ∧ KeysIn L v t (ringF m t) ∧ St w L w' := by
  have hz := zero16
  have hz2 := zero97
  have t6 : (t : Int) ≤ 6 := by omega
  have HC := Lib.hid ((((St.nil w).pushA (blk 16 m) 22 rfl).pushA (rg 0 fun _ => 0) 44 (g := w.heap.size + 1) (by simp)).pushA (rg 0 fun _ => 0) 44 (g := w.heap.size + 1 + 1) (by simp))
  go_enter Tryz.func11, Tryz.ntmps11
  go_wp2_with fail
  go_loopw [7, 8] (fun lv i wr => ∃ j : Nat, j ≤ t ∧ i = .int .i64 (j : Int) ∧ ∃ L, Hid (KeysIn L lv j (ringF m j)) ∧ Hid (St w ((w.heap.size + 1 + 1, rg j (ringF m j)) :: (w.heap.size, blk 16 m) :: (w.heap.size + 1, rg 0 fun _ => 0) :: L) wr)) (fun _ i _ => t - (intOf i).toNat)
  case atStart => exact ⟨0, by omega, rfl, [], Lib.hid (.inl ⟨rfl, rfl⟩), Lib.hid (HC.out.pick [0, 2, 1] (by decide) rfl)⟩
  case round =>
    clear HC
    obtain ⟨j, hj, rfl, L, HL, HC⟩ := hrel
    by_cases hlt : j < t
    · have d1 : (j : Int) < (t : Int) := by omega
      (obtain ⟨⟨r1, f1, i1, b1, l1⟩, ⟨r2, f2, i2, b2, l2⟩, m12, m21⟩ := St.facts2 (HC.out.pick [0, 1] (by decide) rfl))
      by_cases h0 : j = 0
      · subst h0
        go_wp2_with fail
        (clear r1 f1 i1 b1 l1 r2 f2 i2 b2 l2 m12 m21)
        refine (new_any m _).mono ?_; rintro e w3 ⟨rfl, hw⟩
        have HC := Lib.hid (HC.out.call hw)
        clear hw
        (obtain ⟨⟨r1, f1, i1, b1, l1⟩, ⟨r2, f2, i2, b2, l2⟩, m12, m21⟩ := St.facts2 (HC.out.pick [0, 1] (by decide) rfl))
        go_wp2_with fail
        (clear r1 f1 i1 b1 l1 r2 f2 i2 b2 l2 m12 m21)
        have HC := Lib.hid (HC.out.set_head (rg 1 (ringF m 1)) (by rw [rg_size, rg_size]))
        ((obtain ⟨⟨r1, f1, i1, b1, l1⟩, ⟨r2, f2, i2, b2, l2⟩, m12, m21⟩ := St.facts2 (HC.out.pick [0, 1] (by decide) rfl))
         refine (refRotate_yes _ _ _ m (by omega) _ _ _ (HL.out.keys (HC.out.perm (L' := _ :: _ :: _ :: L) (.refl _)).tail.tail.tail) (St.nil _)).mono ?_; rintro e w4 ⟨g, c, F, rfl, h1, h2, hw⟩
         have HC := Lib.hid (HC.out.join hw)
         have H1 := Lib.hid h1
         have H2 := Lib.hid h2
         clear h1 h2 hw
         (clear r1 f1 i1 b1 l1 r2 f2 i2 b2 l2 m12 m21)
         have HC := Lib.hid (HC.out.perm (L' := (w.heap.size + 1 + 1, _) :: (w.heap.size, blk 16 m) :: (w.heap.size + 1, rg 0 fun _ => 0) :: (g, blk (c * 16) F) :: L) (List.perm_middle (l₁ := [_, _, _])))
         go_wp2_with fail
         go_roundw)
        case rel => exact ⟨1, by omega, by go_num, (g, blk (c * 16) F) :: L, Lib.hid (.inr ⟨g, c, F, rfl, H1.out, H2.out, .head _⟩), HC⟩
        case measure => simp [intOf]; omega
      · have d2 : ((j : Int) == 0) = false := by rw [beq_eq_false_iff_ne]; omega
        go_wp2_with fail
        (clear r1 f1 i1 b1 l1 r2 f2 i2 b2 l2 m12 m21)
        refine (rotate_yes j (ringF m j) m (by omega) _).mono ?_; rintro e w3 ⟨rfl, hw⟩
        have HC := Lib.hid (HC.out.call hw)
        clear hw
        (obtain ⟨⟨r1, f1, i1, b1, l1⟩, ⟨r2, f2, i2, b2, l2⟩, m12, m21⟩ := St.facts2 (HC.out.pick [0, 1] (by decide) rfl))
        go_wp2_with fail
        (clear r1 f1 i1 b1 l1 r2 f2 i2 b2 l2 m12 m21)
        have HC := Lib.hid (HC.out.set_head (rg (j + 1) (ringF m (j + 1))) (by rw [rg_size, rg_size]))
        ((obtain ⟨⟨r1, f1, i1, b1, l1⟩, ⟨r2, f2, i2, b2, l2⟩, m12, m21⟩ := St.facts2 (HC.out.pick [0, 1] (by decide) rfl))
         refine (refRotate_yes _ _ _ m (by omega) _ _ _ (HL.out.keys (HC.out.perm (L' := _ :: _ :: _ :: L) (.refl _)).tail.tail.tail) (St.nil _)).mono ?_; rintro e w4 ⟨g, c, F, rfl, h1, h2, hw⟩
         have HC := Lib.hid (HC.out.join hw)
         have H1 := Lib.hid h1
         have H2 := Lib.hid h2
         clear h1 h2 hw
         (clear r1 f1 i1 b1 l1 r2 f2 i2 b2 l2 m12 m21)
         have HC := Lib.hid (HC.out.perm (L' := (w.heap.size + 1 + 1, _) :: (w.heap.size, blk 16 m) :: (w.heap.size + 1, rg 0 fun _ => 0) :: (g, blk (c * 16) F) :: L) (List.perm_middle (l₁ := [_, _, _])))
         go_wp2_with fail
         go_roundw)
        case rel => exact ⟨j + 1, by omega, by go_num, (g, blk (c * 16) F) :: L, Lib.hid (.inr ⟨g, c, F, rfl, H1.out, H2.out, .head _⟩), HC⟩
        case measure => simp [intOf]; omega
    · obtain rfl : j = t := by omega
      (obtain ⟨⟨r1, f1, i1, b1, l1⟩, ⟨r2, f2, i2, b2, l2⟩, ⟨r3, f3, i3, b3, l3⟩, m12, m21, m13, m31, m23, m32⟩ := St.facts3 (HC.out.pick [0, 1, 2] (by decide) rfl))
      go_wp2_with fail
      refine bodyPost_ret (results_pair rfl _ (w.heap.size + 1) rfl (rg j (ringF m j)) ?_ ?_ ?_ ?_ _ rfl) rfl ⟨_, (w.heap.size + 1, rg j (ringF m j)) :: (w.heap.size + 1 + 1, rg j (ringF m j)) :: (w.heap.size, blk 16 m) :: L, rfl, HL.out.mono fun x hx => .tail _ (.tail _ (.tail _ hx)), ?_⟩
      · simp [go_sem, *]
      · simp [go_sem]
      · simp [go_sem]
      · simp [go_sem, *]
      · exact (HC.out.perm (L' := (w.heap.size + 1, rg 0 fun _ => 0) :: (w.heap.size + 1 + 1, rg j (ringF m j)) :: (w.heap.size, blk 16 m) :: L) (List.perm_middle (l₁ := [_, _])).symm).set_head (rg j (ringF m j)) (by rw [rg_size, rg_size])
end Go.Proofs.YtgaecjhghpkcoaaGreat
end

section
namespace Go.Proofs.YtgaecjhghpkcoaaGreat
open Go.RowKit
attribute [local go_sem] B_xor B_or B_and
attribute [local go_sem] blk_set blk_size blk_get blk_getE upd_same oneCells_blk paste_blk cut_blk szOf
attribute [local go_sem high] paste_all cut_head
attribute [local go_sem] rowAt_alloc rowAt_drew rowAt_drewN isRow_alloc isRow_drew isRow_drewN freeRow_alloc freeRow_end freeRow_drew freeRow_drewN
attribute [local go_sem] setRow_alloc setRow_drew setRow_drewN setCell_drewN alloc_drewN rowAt_put isRow_setRow freeRow_put
attribute [local go_sem ↓] loadS_in storeS_in indexS_in copyS_in
attribute [local go_sem] loadS_row loadS_one storeS_row storeS_one indexS_blk copyS_rows run_equalIn_blk same_refl arrayAt_row
attribute [local go_sem] cell_row frozen_row st_setCell st_blk_ne stepAt stepUpon
attribute [local go_sem high] run_eql_blk run_neq_blk
attribute [local go_sem ↓] convBS_in
attribute [local go_sem] convBS_row convBS_nil allBytes_blk bytesOf_blk
attribute [local go_sem] rg_size rg_get0 rg_getE0 rg_ne rg_set0 rg_one rg_cut rg_key rg_put rg_paste part_rg0 part_rg1
attribute [local go_sem] size_cn agg_cn cn_size cn_get0 cn_get1 cn_getE0 cn_getE1 cn_set0 cn_set1 cn_ne cn_one cn_cut cn_paste

theorem fresh_open (kd : Nat) (nt : Value) (t : Nat) (f : Nat → UInt8) (e c : Nat) (ht : t ≠ 0) (hk : mayC e c) : openE (Br.fresh kd nt) t e c = 0 ∧ (Br.fresh kd nt).opened t f e c = ⟨true, kd, nt, t, f, e, c⟩ := by
  have h : openE (Br.fresh kd nt) t e c = 0 := by
    unfold openE
    rw [if_neg (fun h => h rfl), if_neg (fun h => h.elim ht (fun k => k hk))]
  refine ⟨h, ?_⟩
  unfold Br.opened
  rw [if_pos h]
  rfl
/-- a new barrier of a kind is made -/
def BarMakes (kd : Nat) (p nt : Value) (v w0 : World) (L : List (Nat × Array Value)) : Prop := ∀ (w : World) (L' : List (Nat × Array Value)), Sk v w0 (L' ++ L) w → Calls Tryz.prog 9 #[.int .u8 (kd : Int), p] w fun e w' => ∃ g, e = .returned (.tuple #[.pointer (some ⟨g, 0, none⟩), .int .i64 0]) ∧ Sk v w0 ((g, br (Br.fresh kd nt)) :: (L' ++ L)) w'
theorem barMakes_real (p : Value) (v w0 : World) (L : List (Nat × Array Value)) : BarMakes 0 p (.pointer none) v w0 L := fun w _ hC => new_real p v w0 w _ hC
theorem barMakes_ideal (q m : Nat) (v w0 : World) (L : List (Nat × Array Value)) (hq : (q, #[.map (some m)]) ∈ L) : BarMakes 1 (.pointer (some ⟨q, 0, none⟩)) (.pointer (some ⟨q, 0, none⟩)) v w0 L := fun w L' hC => by
  obtain ⟨h1, _, h3, _⟩ := hC.at (g := q) (c := #[.map (some m)]) (by simp [hq])
  exact new_ideal q m v w0 w _ h1 h3 hC
set_option maxRecDepth 100000 in
set_option maxHeartbeats 4000000 in
theorem opened_any (kd : Nat) (p nt : Value) (m : Nat → UInt8) (t : Nat) (h1 : 1 ≤ t) (h6 : t ≤ 6) (e c : Nat) (hk : mayC e c) (v w0 w : World) (L : List (Nat × Array Value)) (hN : BarMakes kd p nt v w0 L) (hC : Sk v w0 L w) :
    Calls Tryz.prog 26 #[.int .u8 (kd : Int), p, .agg (blk 16 m), .int .i64 (t : Int), .agg (cn e c)] w fun r w' => ∃ g L', r = .returned (.pointer (some ⟨g, 0, none⟩)) ∧ Sk v w0 ((g, br ⟨true, kd, nt, t, ringF m t, e, c⟩) :: (L' ++ L)) w' := by
  have hz2 := zero97
  have HC := Lib.hid ((hC.push (blk 16 m) 22).pushA (cn e c) 52 (g := w.heap.size + 1) (by simp))
  have HN := Lib.hid hN
  obtain ⟨fo1, fo2⟩ := fresh_open kd nt t (ringF m t) e c (by omega) hk
  obtain ⟨F, hF⟩ : ∃ F, ringF m t = F := ⟨_, rfl⟩
  have K1 := Lib.hid (ringLaw_any m t h6)
  have K2 := Lib.hid (fun g w L => open_sk (Br.fresh kd nt) rfl t F e c g v w0 w L)
  rw [hF] at K1 fo2 ⊢
  rw [fo1, fo2] at K2
  clear hC hN fo1 fo2 hk hF
  go_enter Tryz.func26, Tryz.ntmps26
  go_wp2_with fail
  refine (HN.out _ [_, _] HC.out).mono ?_; rintro r w1 ⟨g, rfl, hC⟩
  have HC := Lib.hid hC
  clear hC
  (obtain ⟨⟨r1, f1, i1, b1, l1⟩, ⟨r2, f2, i2, b2, l2⟩, ⟨r3, f3, i3, b3, l3⟩, m12, m21, m13, m31, m23, m32⟩ := St.facts3 (HC.out.pick [0, 1, 2] (by decide) rfl))
  go_wp2_with fail
  (clear r1 f1 i1 b1 l1 r2 f2 i2 b2 l2 r3 f3 i3 b3 l3 m12 m21 m13 m31 m23 m32)
  refine (K1.out _).mono ?_; rintro r w2 ⟨val, L', rfl, _, hw⟩
  have HC := Lib.hid ((HC.out.join hw).perm (L' := (g, br (Br.fresh kd nt)) :: (w.heap.size + 1, cn e c) :: (w.heap.size, blk 16 m) :: (L' ++ L)) (List.perm_append_comm_assoc [_, _, _] L' L))
  clear hw
  (obtain ⟨⟨r1, f1, i1, b1, l1⟩, ⟨r2, f2, i2, b2, l2⟩, ⟨r3, f3, i3, b3, l3⟩, m12, m21, m13, m31, m23, m32⟩ := St.facts3 (HC.out.pick [0, 1, 2] (by decide) rfl))
  go_wp2_with fail
  (clear r1 f1 i1 b1 l1 r2 f2 i2 b2 l2 r3 f3 i3 b3 l3 m12 m21 m13 m31 m23 m32)
  have HC := Lib.hid (HC.out.push (rg t F) 44).swap
  refine (K2.out g _ _ HC.out).mono ?_; rintro r w3 ⟨rfl, hC⟩
  have HC := Lib.hid hC
  clear hC
  go_wp2_with fail
  go_ret
  exact ⟨g, (w2.heap.size, rg t F) :: (w.heap.size + 1, cn e c) :: (w.heap.size, blk 16 m) :: L', rfl, HC.out⟩

/-! ### what is done -/
structure OpR where
  k : UInt8
  p : ByteArray
  t : ByteArray
  m : UInt8
  e : Nat
  n : Nat
def opC (o : OpR) : Array Value := #[.int .u8 (B o.k), .string o.p, .string o.t, .int .u8 (B o.m), .int .u64 (o.e : Int), .int .u64 (o.n : Int)]
theorem opC_size (o : OpR) : (opC o).size = 6 := by simp [opC]
theorem opC_get0 (o : OpR) : (opC o)[0]? = some (.int .u8 (B o.k)) := by simp [opC]
theorem opC_get1 (o : OpR) : (opC o)[1]? = some (.string o.p) := by simp [opC]
theorem opC_get2 (o : OpR) : (opC o)[2]? = some (.string o.t) := by simp [opC]
theorem opC_get3 (o : OpR) : (opC o)[3]? = some (.int .u8 (B o.m)) := by simp [opC]
theorem opC_get4 (o : OpR) : (opC o)[4]? = some (.int .u64 (o.e : Int)) := by simp [opC]
theorem opC_get5 (o : OpR) : (opC o)[5]? = some (.int .u64 (o.n : Int)) := by simp [opC]
theorem opC_getE0 (o : OpR) (h : 0 < (opC o).size) : (opC o)[0]'h = .int .u8 (B o.k) := by simp [opC]
theorem opC_getE1 (o : OpR) (h : 1 < (opC o).size) : (opC o)[1]'h = .string o.p := by simp [opC]
theorem opC_getE2 (o : OpR) (h : 2 < (opC o).size) : (opC o)[2]'h = .string o.t := by simp [opC]
theorem opC_getE3 (o : OpR) (h : 3 < (opC o).size) : (opC o)[3]'h = .int .u8 (B o.m) := by simp [opC]
theorem opC_getE4 (o : OpR) (h : 4 < (opC o).size) : (opC o)[4]'h = .int .u64 (o.e : Int) := by simp [opC]
theorem opC_getE5 (o : OpR) (h : 5 < (opC o).size) : (opC o)[5]'h = .int .u64 (o.n : Int) := by simp [opC]
theorem opC_ne (o : OpR) : (opC o = #[]) = False := by simp [opC]
theorem opC_one (o : OpR) : oneCells (opC o) = true := by simp [oneCells, opC, Value.oneCell']
theorem opC_cut (o : OpR) : cut (opC o) 0 6 = opC o := by simp [cut, opC]
theorem opC_count (o : OpR) : cut (opC o) 4 6 = cn o.e o.n := by simp [cut, opC, cn]
theorem size_op (w : World) : (sizeOf 40).run Tryz.prog w = .ok 6 w := by simp [go_sem]
theorem agg_op (w : World) : (isAgg 40).run Tryz.prog w = .ok true w := by simp [go_sem]
attribute [local go_sem] size_op agg_op opC_size opC_get0 opC_get1 opC_get2 opC_get3 opC_get4 opC_get5 opC_getE0 opC_getE1 opC_getE2 opC_getE3 opC_getE4 opC_getE5 opC_ne opC_one opC_cut opC_count
set_option maxRecDepth 100000 in
theorem early_any (o : OpR) (w : World) : Calls Tryz.prog 27 #[.agg (opC o)] w fun r w' => r = .returned (.agg (cn (1 + o.e % 1000) (o.n % 1000))) ∧ Below w.heap.size w w' := by
  have hz3 := cn_zero
  obtain ⟨E, hE⟩ : ∃ E, 1 + o.e % 1000 = E := ⟨_, rfl⟩
  obtain ⟨N, hN⟩ : ∃ N, o.n % 1000 = N := ⟨_, rfl⟩
  rw [hE, hN]
  have hs : ((cn 0 0).setIfInBounds 0 (.int .u64 (1 + (o.e : Int) % 1000))).setIfInBounds 1 (.int .u64 ((o.n : Int) % 1000)) = cn E N := by
    rw [show (1 : Int) + (o.e : Int) % 1000 = (E : Int) by omega, show (o.n : Int) % 1000 = (N : Int) by omega, cn_set0, cn_set1]
  clear hE hN
  have HC := Lib.hid (((St.nil w).pushA (opC o) 40 rfl).pushA (cn 0 0) 52 (g := w.heap.size + 1) (by simp))
  go_enter Tryz.func27, Tryz.ntmps27
  (obtain ⟨⟨r1, f1, i1, b1, l1⟩, ⟨r2, f2, i2, b2, l2⟩, m12, m21⟩ := St.facts2 (HC.out.pick [0, 1] (by decide) rfl))
  go_wp2_with fail
  refine bodyPost_ret (results_row rfl _ (w.heap.size + 1) rfl (cn E N) ?_ ?_ ?_ ?_) rfl ⟨rfl, ?_⟩
  · simp [go_sem, *]
  · simp [go_sem]
  · simp [go_sem]
  · simp [go_sem, *]
  · exact ((((St.nil w).pushA (opC o) 40 rfl).pushA (cn E N) 52 (g := w.heap.size + 1) (by simp))).below
/-- a list of what is done, that lies somewhere -/
def OpsAt (w : World) (v : Value) (M : Nat) (o : Nat → OpR) : Prop := ∃ a c, v = .slice a M c ∧ ∀ i, i < M → ∃ ad, a = some ad ∧ (ad.add (i * 6)).block < w.heap.size ∧ (ad.add (i * 6)).spot = none ∧ ∀ j, j < 6 → w.cell? ⟨(ad.add (i * 6)).block, (ad.add (i * 6)).off + j, none⟩ = (opC (o i))[j]?
theorem OpsAt.call {w w' : World} {v : Value} {M : Nat} {o : Nat → OpR} (h : OpsAt w v M o) (hb : Below w.heap.size w w') : OpsAt w' v M o := by
  obtain ⟨a, c, h1, h2⟩ := h
  refine ⟨a, c, h1, fun i hi => ?_⟩
  obtain ⟨ad, e1, e2, e4, e3⟩ := h2 i hi
  exact ⟨ad, e1, Nat.lt_of_lt_of_le e2 hb.size, e4, fun j hj => (hb.cell (p := ⟨(ad.add (i * 6)).block, (ad.add (i * 6)).off + j, none⟩) e2).trans (e3 j hj)⟩
def overP (M : Nat) (o : Nat → OpR) : Prop := 16 < M ∨ ∃ i, i < M ∧ (40 < (o i).p.size ∨ 80 < (o i).t.size)
set_option maxRecDepth 100000 in
theorem over21_any (v : Value) (M : Nat) (o : Nat → OpR) (b : Bool) (hb : b = true ↔ overP M o) (w : World) (hO : OpsAt w v M o) : Calls Tryz.prog 7 #[v] w fun r w' => r = .returned (.bool b) ∧ Below w.heap.size w w' := by
  obtain ⟨a, c, rfl, hO⟩ := hO
  by_cases h16 : 16 < M
  · obtain rfl : b = true := hb.2 (.inl h16)
    have d1 : decide (16 < (M : Int)) = true := decide_eq_true (by omega)
    clear hO hb
    go_enter Tryz.func7, Tryz.ntmps7
    go_wp2_with fail
    go_ret
    exact ⟨rfl, Below.refl _ _⟩
  · have d1 : decide (16 < (M : Int)) = false := decide_eq_false (by omega)
    have HO := Lib.hid hO
    have HB := Lib.hid hb
    have m16 : (M : Int) ≤ 16 := by omega
    clear hO hb
    go_enter Tryz.func7, Tryz.ntmps7
    go_wp2_with fail
    go_loopw [3] (fun i wr => ∃ j : Nat, j ≤ M ∧ i = .int .i64 (j : Int) ∧ Hid (wr = w) ∧ Hid (∀ i, i < j → ¬ (40 < (o i).p.size ∨ 80 < (o i).t.size))) (fun i _ => M - (intOf i).toNat)
    case atStart => exact ⟨0, by omega, rfl, Lib.hid rfl, Lib.hid fun i hi => absurd hi (by omega)⟩
    case round =>
      obtain ⟨j, hj, rfl, hw, HN⟩ := hrel
      obtain rfl := hw.out
      by_cases hlt : j < M
      · have d2 : (j : Int) < (M : Int) := by omega
        obtain ⟨ad, rfl, hbl, _, hc⟩ := HO.out j hlt
        have c1 := hc 1 (by omega)
        have c2 := hc 2 (by omega)
        rw [opC_get1] at c1
        rw [opC_get2] at c2
        clear hc hbl
        by_cases hp : 40 < (o j).p.size
        · have e1 : decide (40 < ((o j).p.size : Int)) = true := decide_eq_true (by omega)
          go_wp2_with fail
          go_ret
          exact ⟨congrArg (fun x => Ending.returned (.bool x)) (HB.out.2 (.inr ⟨j, hlt, .inl hp⟩)).symm, Below.refl _ _⟩
        · have e1 : decide (40 < ((o j).p.size : Int)) = false := decide_eq_false (by omega)
          by_cases ht : 80 < (o j).t.size
          · have e2 : decide (80 < ((o j).t.size : Int)) = true := decide_eq_true (by omega)
            go_wp2_with fail
            go_ret
            exact ⟨congrArg (fun x => Ending.returned (.bool x)) (HB.out.2 (.inr ⟨j, hlt, .inr ht⟩)).symm, Below.refl _ _⟩
          · have e2 : decide (80 < ((o j).t.size : Int)) = false := decide_eq_false (by omega)
            have HN := Lib.hid (show ∀ i, i < j + 1 → ¬ (40 < (o i).p.size ∨ 80 < (o i).t.size) from fun i hi => by
              rcases Nat.lt_succ_iff_lt_or_eq.1 hi with h | rfl
              · exact HN.out i h
              · omega)
            go_wp2_with fail
            go_roundw
            case rel => exact ⟨j + 1, by omega, by go_num, Lib.hid trivial, HN⟩
            case measure => simp [intOf]; omega
      · obtain rfl : j = M := by omega
        have hbf : b = false := by
          cases b
          · rfl
          · rcases HB.out.1 rfl with h | ⟨i, h1, h2⟩
            · exact absurd h h16
            · exact absurd h2 (HN.out i h1)
        subst hbf
        go_wp2_with fail
        go_ret
        exact ⟨rfl, Below.refl _ _⟩
end Go.Proofs.YtgaecjhghpkcoaaGreat
end

section
namespace Go.Proofs.YtgaecjhghpkcoaaGreat
open Go.RowKit

def kdOf (id : Bool) : Nat := if id = true then 1 else 0
def ntOf (id : Bool) (q : Nat) : Value := if id = true then .pointer (some ⟨q, 0, none⟩) else .pointer none
/-- what notes are -/
abbrev Notes := List (ByteArray × (ByteArray × ByteArray))
/-- a barrier with its notes; the blocks behind them -/
structure BarAt (id : Bool) (w0 : World) (g : Nat) (b : Br) (q m : Nat) (N : Notes) (L : List (Nat × Array Value)) (w : World) : Prop where
  st : St w0 ((g, br b) :: (q, #[.map (some m)]) :: L) w
  mp : Mp encN w m N
  md : b.md = true
  kd : b.kd = kdOf id
  nt : b.nt = ntOf id q
  n6 : b.n ≤ 6
  m0 : w0.heap.size ≤ m
  sz : ∀ k x, findN k N = some x → x.2.size < 2 ^ 38
section
variable {id : Bool} {w0 w w' : World} {g : Nat} {b : Br} {q m : Nat} {N : Notes} {L : List (Nat × Array Value)}
theorem BarAt.call (h : BarAt id w0 g b q m N L w) (hb : Below w.heap.size w w') : BarAt id w0 g b q m N L w' := ⟨h.st.call hb, h.mp.call _ hb, h.md, h.kd, h.nt, h.n6, h.m0, h.sz⟩
theorem BarAt.to (h : BarAt id w0 g b q m N L w) {b' : Br} {L' : List (Nat × Array Value)} (hs : St w0 ((g, br b') :: (q, #[.map (some m)]) :: L') w') (hk : Mk w w') (h1 : b'.md = b.md) (h2 : b'.kd = b.kd) (h3 : b'.nt = b.nt) (h4 : b'.n ≤ 6) : BarAt id w0 g b' q m N L' w' :=
  ⟨hs, h.mp.mk _ hk, h1.trans h.md, h2.trans h.kd, h3.trans h.nt, h4, h.m0, h.sz⟩
theorem BarAt.next (h : BarAt id w0 g b q m N L w) {b' : Br} (hs : Sk w w0 ((g, br b') :: (q, #[.map (some m)]) :: L) w') (h1 : b'.md = b.md) (h2 : b'.kd = b.kd) (h3 : b'.nt = b.nt) (h4 : b'.n ≤ 6) : BarAt id w0 g b' q m N L w' := h.to hs.toSt hs.kept h1 h2 h3 h4
theorem BarAt.push (h : BarAt id w0 g b q m N L w) (cs : Array Value) (t : TypeId) : BarAt id w0 g b q m N ((w.heap.size, cs) :: L) (w.alloc (.cells cs t)) :=
  h.to ((h.st.push cs t).perm (List.perm_middle (l₁ := [_, _]))) (Mk.alloc (Mk.refl _) _) rfl rfl rfl h.n6
theorem BarAt.skip (h : BarAt id w0 g b q m N L w) (o : Obj) : BarAt id w0 g b q m N L (w.alloc o) := h.to (h.st.skip o) (Mk.alloc (Mk.refl _) _) rfl rfl rfl h.n6
theorem BarAt.perm (h : BarAt id w0 g b q m N L w) {L' : List (Nat × Array Value)} (hp : L'.Perm L) : BarAt id w0 g b q m N L' w := h.to (h.st.perm ((hp.cons _).cons _)) (Mk.refl _) rfl rfl rfl h.n6
/-- a row behind them is written -/
theorem BarAt.set {k : Nat} {c : Array Value} (h : BarAt id w0 g b q m N ((k, c) :: L) w) (cs : Array Value) (hs : cs.size = c.size) : BarAt id w0 g b q m N ((k, cs) :: L) (w.setRow k cs) :=
  h.to (((h.st.perm (L' := (k, c) :: (g, br b) :: (q, #[.map (some m)]) :: L) (List.perm_middle (l₁ := [_, _])).symm).set_head cs hs).perm (List.perm_middle (l₁ := [_, _]))) (Mk.setRow (Mk.refl _) _ _) rfl rfl rfl h.n6
end
theorem took_same (b : Br) : b.took.md = b.md ∧ b.took.kd = b.kd ∧ b.took.nt = b.nt ∧ b.took.n = b.n ∧ b.took.f = b.f ∧ b.took.e = b.e := by
  unfold Br.took; split <;> exact ⟨rfl, rfl, rfl, rfl, rfl, rfl⟩
/-- what is put -/
def hideS (id : Bool) (b : Br) (p t : ByteArray) : ByteArray := if id = true then nilS (t.size + 16) else sealedT b.n b.f b.e b.c p t
def putS (id : Bool) (b : Br) (p t : ByteArray) : ByteArray := if takeE b = 0 then headS b.n (nonceS b.e b.c) ++ hideS id b p t else ⟨#[]⟩
def putM (id : Bool) (b : Br) (p t : ByteArray) (N : Notes) : Notes := if id = true ∧ takeE b = 0 then putN (nonceS b.e b.c) (p, t) N else N
theorem hideS_size (id : Bool) (b : Br) (p t : ByteArray) : (hideS id b p t).size = t.size + 16 := by
  unfold hideS
  split
  · exact strOf_size _ _
  · unfold sealedT; rw [sealS_size]
theorem putS_size (id : Bool) (b : Br) (p t : ByteArray) : (putS id b p t).size ≤ t.size + 32 := by
  unfold putS
  split
  · rw [entry_size _ _ _ (nonceS_size _ _), hideS_size]; omega
  · exact Nat.zero_le _
theorem put_bar (id : Bool) (w0 w : World) (g : Nat) (b : Br) (q m : Nat) (N : Notes) (L : List (Nat × Array Value)) (p t : ByteArray) (hp : p.size < 2 ^ 38) (ht : t.size < 2 ^ 38) (h : BarAt id w0 g b q m N L w) :
    Calls Tryz.prog 23 #[.pointer (some ⟨g, 0, none⟩), .string p, .string t] w fun r w' => r = .returned (.tuple #[.string (putS id b p t), .int .i64 ((takeE b : Nat) : Int)]) ∧ BarAt id w0 g b.took q m (putM id b p t N) L w' ∧ Mo m w w' := by
  by_cases hE : takeE b = 0
  · have e1 : b.took = { b with c := b.c + 1 } := by unfold Br.took; rw [if_pos hE]
    have e2 : putS id b p t = headS b.n (nonceS b.e b.c) ++ hideS id b p t := by unfold putS; rw [if_pos hE]
    rw [e2, hE]
    cases id
    · have e3 : hideS false b p t = sealedT b.n b.f b.e b.c p t := by unfold hideS; exact if_neg (by decide)
      have e4 : putM false b p t N = N := by unfold putM; exact if_neg fun h => by cases h.1
      rw [e3, e4]
      refine (put_real b h.md h.kd h.n6 hE p t (by omega) (by omega) g w w0 w _ h.st.sk).mono ?_
      rintro r w' ⟨rfl, hs⟩
      rw [e1]
      exact ⟨rfl, h.next hs rfl rfl rfl h.n6, fun k es c _ hk => hs.kept k es c hk⟩
    · have e3 : hideS true b p t = nilS (t.size + 16) := by unfold hideS; exact if_pos rfl
      have e4 : putM true b p t N = putN (nonceS b.e b.c) (p, t) N := by unfold putM; exact if_pos ⟨rfl, hE⟩
      rw [e3, e4]
      refine (put_ideal b h.md h.kd h.n6 hE q m h.nt N p t (by omega) g w w0 w L h.st.sk h.mp h.m0).mono ?_
      rintro r w' ⟨rfl, hmo, hmp, hs⟩
      rw [e1]
      refine ⟨rfl, ⟨hs.toSt, hmp, h.md, h.kd, h.nt, h.n6, h.m0, fun k x hx => ?_⟩, hmo⟩
      rw [find_put] at hx
      split at hx
      · cases hx; exact ht
      · exact h.sz k x hx
  · have e1 : b.took = b := by unfold Br.took; rw [if_neg hE]
    have e2 : putS id b p t = ⟨#[]⟩ := by unfold putS; rw [if_neg hE]
    have e4 : putM id b p t N = N := by unfold putM; exact if_neg fun h => hE h.2
    rw [e1, e2, e4]
    refine (put_no b h.md hE p t g w w0 w _ h.st.sk).mono ?_
    rintro r w' ⟨rfl, hs⟩
    exact ⟨rfl, h.next hs rfl rfl rfl h.n6, fun k es c _ hk => hs.kept k es c hk⟩
theorem get_bar (id : Bool) (w0 w : World) (g : Nat) (b : Br) (q m : Nat) (N : Notes) (L : List (Nat × Array Value)) (p s : ByteArray) (hp : p.size < 2 ^ 38) (hs : s.size < 2 ^ 39) (h : BarAt id w0 g b q m N L w) (R : ByteArray × Nat) (hR : getO id b.n b.f (fun k => findN k N) p s = R) :
    Calls Tryz.prog 12 #[.pointer (some ⟨g, 0, none⟩), .string p, .string s] w fun r w' => r = .returned (.tuple #[.string R.1, .int .i64 ((R.2 : Nat) : Int)]) ∧ Below w.heap.size w w' := by
  subst hR
  unfold getO
  by_cases h0 : b.n = 0
  · rw [if_pos h0]; exact get_sealed b h.md h0 p s g w0 w _ h.st
  · rw [if_neg h0]
    by_cases h1 : s.size < 32
    · rw [if_pos h1]; exact get_short b h.md h0 p s h1 g w0 w _ h.st
    · rw [if_neg h1]
      by_cases h2 : numAt s 0 4 < 1 ∨ b.n < numAt s 0 4
      · rw [if_pos h2]; exact get_none b h.md h0 p s (by omega) (by omega) h2 g w0 w _ h.st
      · rw [if_neg h2]
        cases id
        · rw [if_neg (by decide)]
          exact get_real b h.md h.kd h0 h.n6 p s (by omega) (by omega) (by omega) h2 _ rfl g w0 w _ h.st
        · rw [if_pos rfl]
          exact get_ideal b h.md h.kd h0 h.n6 q m h.nt N p s (by omega) (by omega) h2 _ rfl (fun q' t' e => Nat.le_of_lt (Nat.lt_of_lt_of_le (h.sz _ _ e) (by omega))) g w w0 w L h.st.sk h.mp
theorem opened_bar (id : Bool) (p : Value) (mk : Nat → UInt8) (t : Nat) (h1 : 1 ≤ t) (h6 : t ≤ 6) (e c : Nat) (hk : mayC e c) (w0 w : World) (q m : Nat) (N : Notes) (L : List (Nat × Array Value)) (hp : id = true → p = .pointer (some ⟨q, 0, none⟩)) (hC : St w0 ((q, #[.map (some m)]) :: L) w) (hM : Mp encN w m N) (h0 : w0.heap.size ≤ m) (hsz : ∀ k x, findN k N = some x → x.2.size < 2 ^ 38) :
    Calls Tryz.prog 26 #[.int .u8 ((kdOf id : Nat) : Int), p, .agg (blk 16 mk), .int .i64 (t : Int), .agg (cn e c)] w fun r w' => ∃ g L', r = .returned (.pointer (some ⟨g, 0, none⟩)) ∧ BarAt id w0 g ⟨true, kdOf id, ntOf id q, t, ringF mk t, e, c⟩ q m N (L' ++ L) w' ∧ Mk w w' := by
  have hN : BarMakes (kdOf id) p (ntOf id q) w w0 ((q, #[.map (some m)]) :: L) := by
    cases id
    · exact barMakes_real p w w0 _
    · rw [hp rfl]; exact barMakes_ideal q m w w0 _ (.head _)
  refine (opened_any (kdOf id) p (ntOf id q) mk t h1 h6 e c hk w w0 w _ hN hC.sk).mono ?_
  rintro r w' ⟨g, L', rfl, hs⟩
  exact ⟨g, L', rfl, ⟨hs.toSt.perm ((List.perm_middle (l₁ := L')).symm.cons _), hM.mk _ hs.kept, rfl, rfl, rfl, h6, h0, hsz⟩, hs.kept⟩
end Go.Proofs.YtgaecjhghpkcoaaGreat
end

section
namespace Go.Proofs.YtgaecjhghpkcoaaGreat
open Go.RowKit Go.Shelf
attribute [local go_sem] B_xor B_or B_and
attribute [local go_sem] blk_set blk_size blk_get blk_getE upd_same oneCells_blk paste_blk cut_blk szOf
attribute [local go_sem high] paste_all cut_head
attribute [local go_sem] rowAt_alloc rowAt_drew rowAt_drewN isRow_alloc isRow_drew isRow_drewN freeRow_alloc freeRow_end freeRow_drew freeRow_drewN
attribute [local go_sem] setRow_alloc setRow_drew setRow_drewN setCell_drewN alloc_drewN rowAt_put isRow_setRow freeRow_put
attribute [local go_sem ↓] loadS_in storeS_in indexS_in copyS_in
attribute [local go_sem] loadS_row loadS_one storeS_row storeS_one indexS_blk copyS_rows run_equalIn_blk same_refl arrayAt_row
attribute [local go_sem] cell_row frozen_row st_setCell st_blk_ne stepAt stepUpon
attribute [local go_sem high] run_eql_blk run_neq_blk
attribute [local go_sem ↓] convBS_in
attribute [local go_sem] convBS_row convBS_nil allBytes_blk bytesOf_blk

def Tryz.cloneN_ren : Go.Shelf.Ren := ⟨fun | 5 => 62 | 7 => 85 | n => n, fun | 23 => 76 | 25 => 9 | 3 => 97 | 4 => 4 | 20 => 20 | n => n, fun | n => n⟩
theorem Tryz.cloneN : Go.Proofs.SlLaysW.n5 Tryz.prog Tryz.cloneN_ren := {
  mixed := by kernel_rfl
  f5 := ⟨Tryz.f62.name, by decide, Tryz.func62.trans (congrArg some (by kernel_rfl))⟩
  f7 := Tryz.func85.trans (congrArg some (by kernel_rfl))
  t4 := Tryz.underlying4
  a4 := Tryz.isAgg4
  z4 := Tryz.sizeOf4
  v4 := Tryz.zeroValue4
  t20 := Tryz.underlying20
  a20 := Tryz.isAgg20
  z20 := Tryz.sizeOf20
  v20 := Tryz.zeroValue20
  t23 := Tryz.underlying76
  a23 := Tryz.isAgg76
  z23 := Tryz.sizeOf76
  v23 := Tryz.zeroValue76 }

theorem clone_any (m : Nat) (N : Notes) (w : World) (hM : Mp encN w m N) : Calls Tryz.prog 62 #[.map (some m)] w fun e w' => e = .returned (.map (some w.heap.size)) ∧ Mp encN w' w.heap.size N ∧ Below w.heap.size w w' := by
  obtain ⟨es, c, h1, h2⟩ := hM
  refine (AnyW.maps_Clone Tryz.cloneN m es c w h1).mono ?_
  rintro e w' ⟨rfl, rfl⟩
  exact ⟨rfl, ⟨es, c, (MapKept.heap_alloc w _).1, h2⟩, (Below.refl _ w).alloc (Nat.le_refl _) _⟩
theorem notesFork_any (q m : Nat) (N : Notes) (w : World) (hg : rowAt w q = #[.map (some m)]) (hi : isRow w q = true) (hq : q < w.heap.size) (hM : Mp encN w m N) :
    Calls Tryz.prog 32 #[.pointer (some ⟨q, 0, none⟩)] w fun e w' => ∃ q' m', e = .returned (.pointer (some ⟨q', 0, none⟩)) ∧ St w [(q', #[.map (some m')])] w' ∧ Mp encN w' m' N ∧ w.heap.size ≤ m' := by
  have HO := Lib.hid (ok_yes q m w hg hi)
  have HM := Lib.hid hM
  have HC := Lib.hid (St.nil w)
  have HQ := Lib.hid (And.intro hg (And.intro hi hq))
  clear hg hi hq hM
  go_enter Tryz.func32, Tryz.ntmps32
  go_wp2_with fail
  refine HO.out.mono ?_; rintro e w1 ⟨rfl, hw⟩
  have HC := Lib.hid (HC.out.call hw)
  have HM := Lib.hid (HM.out.call _ hw)
  have HS := Lib.hid HC.out.below.size
  have r1 : rowAt w1 q = #[.map (some m)] := (below_rowAt hw HQ.out.2.2).trans HQ.out.1
  have i1 : isRow w1 q = true := (below_isRow hw HQ.out.2.2).trans HQ.out.2.1
  clear hw
  go_wp2_with fail
  refine (clone_any m N _ HM.out).mono ?_; rintro e w2 ⟨rfl, hm, hw⟩
  have HC := Lib.hid (HC.out.call hw)
  clear hw
  go_wp2_with fail
  go_ret
  exact ⟨_, w1.heap.size, rfl, HC.out.push _ _, hm.call _ ((Below.refl _ _).alloc (Nat.le_refl _) _), HS.out⟩
end Go.Proofs.YtgaecjhghpkcoaaGreat
end

section
namespace Go.Proofs.YtgaecjhghpkcoaaGreat
open Go.RowKit

theorem expandE_same {a b : Nat → UInt8} (h : Ci.EqB a b) : ∀ n, Ci.EqB (Ci.expand a n) (Ci.expand b n)
  | 0 => h
  | n + 1 => Ci.next_congr (expandE_same h n) _
theorem roundsE_same {a b : Nat → UInt8} (h : Ci.EqB a b) : Ci.rounds a = Ci.rounds b := funext fun j => expandE_same h (j / 16) (j % 16) (Nat.mod_lt _ (by omega))
theorem openR_same {a b : Nat → UInt8} (h : Ci.EqB a b) (nn p s : ByteArray) : openR a nn p s = openR b nn p s := by
  unfold openR
  rw [roundsE_same h]
theorem putS_yes (id : Bool) (b : Br) (p t : ByteArray) (hE : takeE b = 0) : putS id b p t = headS b.n (nonceS b.e b.c) ++ hideS id b p t := by unfold putS; rw [if_pos hE]
/-- what is put is got by a ring that has the key -/
theorem get_put (id : Bool) (b : Br) (p t : ByteArray) (n : Nat) (f : Nat → UInt8) (M : ByteArray → Option (ByteArray × ByteArray)) (hE : takeE b = 0) (h6 : n ≤ 6) (hn : b.n ≤ n) (hf : Ci.EqB (keyB f (b.n - 1)) (keyB b.f (b.n - 1))) (hM : id = true → M (nonceS b.e b.c) = some (p, t)) :
    getO id n f M p (putS id b p t) = (t, 0) := by
  have h1 := takeE_n hE
  have hs := entry_size b.n (nonceS b.e b.c) (hideS id b p t) (nonceS_size _ _)
  have ht := entry_term b.n (nonceS b.e b.c) (hideS id b p t) (by omega)
  rw [putS_yes id b p t hE]
  unfold getO
  rw [if_neg (by omega), if_neg (by rw [hs, hideS_size]; omega), ht, if_neg (by omega), entry_nonce _ _ _ (nonceS_size _ _), entry_rest _ _ _ (nonceS_size _ _)]
  cases id
  · rw [if_neg (by decide), openR_same hf]
    unfold hideS
    rw [if_neg (by decide)]
    exact openR_own _ _ _ _
  · rw [if_pos rfl, hM rfl]
    unfold hideS idealR
    rw [if_pos rfl]
    exact if_pos ⟨rfl, rfl⟩
theorem add_key (f k : Nat → UInt8) (n u : Nat) (h : u < n) : Ci.EqB (keyB (addB f n k) u) (keyB f u) := fun i hi => by
  unfold keyB addB cpy
  rw [if_neg]
  have : u * 16 + 16 ≤ n * 16 := by omega
  omega
theorem parse_key (n : Nat) (f : Nat → UInt8) (u : Nat) (h : u < n) : Ci.EqB (keyB (parseB ((ringT n f).extract 1 (ringT n f).size) (n * 16)) u) (keyB f u) := fun i hi => by
  have hu : u * 16 + 16 ≤ n * 16 := by omega
  unfold keyB parseB
  rw [if_pos (by omega), ofText_extract _ _ _ _ (by rw [ringT_size]; omega) (Nat.le_refl _)]
  unfold ringT
  rw [ofText_strOf _ _ _ (by omega)]
  unfold ringB glue
  rw [if_neg (by omega)]
  congr 1; omega
end Go.Proofs.YtgaecjhghpkcoaaGreat
end

section
namespace Go.Proofs.YtgaecjhghpkcoaaGreat
open Go.RowKit

section
variable {id : Bool} {w0 w w' : World} {g : Nat} {b : Br} {q m : Nat} {N : Notes} {L L' : List (Nat × Array Value)}
theorem BarAt.pick (h : BarAt id w0 g b q m N L w) (is : List Nat) (hn : is.Nodup) (hL : is.filterMap (fun i => ((g, br b) :: (q, #[.map (some m)]) :: L)[i]?) = L') : St w0 L' w := h.st.pick is hn hL
theorem BarAt.join (h : BarAt id w0 g b q m N L w) (k : St w L' w') : BarAt id w0 g b q m N (L' ++ L) w' :=
  h.to ((h.st.join k).perm (List.perm_append_comm_assoc [_, _] L' L)) (Mk.call k.below (Mk.refl _)) rfl rfl rfl h.n6
theorem BarAt.sub (h : BarAt id w0 g b q m N L w) (hs : L'.Sublist L) : BarAt id w0 g b q m N L' w :=
  h.to (h.st.weaken (List.Nodup.sublist (((hs.cons_cons _).cons_cons _).map _) h.st.ne) fun _ hx => ((hs.cons_cons _).cons_cons _).subset hx) (Mk.refl _) rfl rfl rfl h.n6
variable (h : BarAt id w0 g b q m N L w)
include h
theorem put_yes (p t : ByteArray) (hp : p.size < 2 ^ 38) (ht : t.size < 2 ^ 38) (hE : takeE b = 0) : Calls Tryz.prog 23 #[.pointer (some ⟨g, 0, none⟩), .string p, .string t] w fun r w' => r = .returned (.tuple #[.string (putS id b p t), .int .i64 0]) ∧ BarAt id w0 g { b with c := b.c + 1 } q m (putM id b p t N) L w' ∧ Mo m w w' := by
  have k := put_bar id w0 w g b q m N L p t hp ht h
  have e1 : b.took = { b with c := b.c + 1 } := by unfold Br.took; rw [if_pos hE]
  rw [hE, e1] at k
  exact k
theorem ring_yes (hn : b.n ≠ 0) : Calls Tryz.prog 28 #[.pointer (some ⟨g, 0, none⟩)] w fun r w' => r = .returned (.agg (rg b.n b.f)) ∧ Below w.heap.size w w' := ring_open b h.md hn g w0 w _ h.st
theorem count_yes (hn : b.n ≠ 0) : Calls Tryz.prog 37 #[.pointer (some ⟨g, 0, none⟩)] w fun r w' => r = .returned (.agg (cn b.e b.c)) ∧ Below w.heap.size w w' := count_open b h.md hn g w0 w _ h.st
theorem turn_yes (n : Nat) (f : Nat → UInt8) (hn : b.n ≠ 0) (h0 : n ≠ 0) (h6 : n ≤ 6) : Calls Tryz.prog 18 #[.pointer (some ⟨g, 0, none⟩), .agg (rg n f)] w fun r w' => r = .returned (.int .i64 0) ∧ BarAt id w0 g { b with n := n, f := f } q m N L w' := by
  have hE : turnE b n = 0 := by unfold turnE; rw [if_neg hn, if_neg h0]
  have e1 : b.turned n f = { b with n := n, f := f } := by unfold Br.turned; rw [if_pos hE]
  have k := turn_sk b h.md n f g w w0 w _ h.st.sk
  rw [hE, e1] at k
  exact k.mono fun _ _ ⟨a, c⟩ => ⟨a, h.next c rfl rfl rfl h6⟩
theorem lock_yes (mk : Nat → UInt8) (hE : takeE b = 0) : Calls Tryz.prog 20 #[.pointer (some ⟨g, 0, none⟩), .agg (blk 16 mk)] w fun r w' => r = .returned (.tuple #[.string (headS 0 (nonceS b.e b.c) ++ sealedR mk b.n b.f b.e b.c), .int .i64 0]) ∧ BarAt id w0 g { b with c := b.c + 1 } q m N L w' := by
  have e1 : lockS b mk = headS 0 (nonceS b.e b.c) ++ sealedR mk b.n b.f b.e b.c := by unfold lockS; rw [if_pos hE]
  have e2 : b.took = { b with c := b.c + 1 } := by unfold Br.took; rw [if_pos hE]
  have k := lock_sk b h.md h.n6 mk g w w0 w _ h.st.sk
  rw [e1, e2, hE] at k
  exact k.mono fun _ _ ⟨a, c⟩ => ⟨a, h.next c rfl rfl rfl h.n6⟩
theorem seal_yes : Calls Tryz.prog 16 #[.pointer (some ⟨g, 0, none⟩)] w fun r w' => r = .returned (.tuple #[]) ∧ BarAt id w0 g b.shut q m N L w' :=
  (seal_sk b g w w0 w _ h.st.sk).mono fun _ _ ⟨a, c⟩ => ⟨a, h.next c rfl rfl rfl (Nat.zero_le _)⟩
theorem open_good (n : Nat) (f : Nat → UInt8) (e c : Nat) (hn : b.n = 0) (h0 : n ≠ 0) (h6 : n ≤ 6) (hk : mayC e c) : Calls Tryz.prog 14 #[.pointer (some ⟨g, 0, none⟩), .agg (rg n f), .agg (cn e c)] w fun r w' => r = .returned (.int .i64 0) ∧ BarAt id w0 g { b with n := n, f := f, e := e, c := c } q m N L w' := by
  have hE : openE b n e c = 0 := by unfold openE; rw [if_neg (fun k => k hn), if_neg (fun k => k.elim h0 fun k => k hk)]
  have e1 : b.opened n f e c = { b with n := n, f := f, e := e, c := c } := by unfold Br.opened; rw [if_pos hE]
  have k := open_sk b h.md n f e c g w w0 w _ h.st.sk
  rw [hE, e1] at k
  exact k.mono fun _ _ ⟨a, c⟩ => ⟨a, h.next c rfl rfl rfl h6⟩
omit h
theorem new_bar (id : Bool) (p : Value) (w0 w : World) (q m : Nat) (N : Notes) (L : List (Nat × Array Value)) (hp : id = true → p = .pointer (some ⟨q, 0, none⟩)) (hC : St w0 ((q, #[.map (some m)]) :: L) w) (hM : Mp encN w m N) (h0 : w0.heap.size ≤ m) (hsz : ∀ k x, findN k N = some x → x.2.size < 2 ^ 38) :
    Calls Tryz.prog 9 #[.int .u8 ((kdOf id : Nat) : Int), p] w fun r w' => ∃ g, r = .returned (.tuple #[.pointer (some ⟨g, 0, none⟩), .int .i64 0]) ∧ BarAt id w0 g (Br.fresh (kdOf id) (ntOf id q)) q m N L w' := by
  have hN : BarMakes (kdOf id) p (ntOf id q) w w0 ((q, #[.map (some m)]) :: L) := by
    cases id
    · exact barMakes_real p w w0 _
    · rw [hp rfl]; exact barMakes_ideal q m w w0 _ (.head _)
  refine (hN w [] hC.sk).mono ?_
  rintro r w' ⟨g, rfl, hs⟩
  exact ⟨g, rfl, ⟨hs.toSt, hM.mk _ hs.kept, rfl, rfl, rfl, Nat.zero_le _, h0, hsz⟩⟩
end
theorem takeE_yes (b : Br) (hn : b.n ≠ 0) (hk : mayC b.e b.c) (hc : b.c ≠ 281474976710656) : takeE b = 0 := by
  unfold takeE; rw [if_neg hn, if_neg (fun k => k hk), if_neg hc]
end Go.Proofs.YtgaecjhghpkcoaaGreat
end
