/- The program's barrier of the real kind: Put, Get. -/
import Derived.Test.YtgaecjhghpkcoaaGreatBar10
namespace Go.Proofs.YtgaecjhghpkcoaaGreat
open Go.RowKit
attribute [local go_sem] B_xor B_or B_and
attribute [local go_sem] blk_set blk_size blk_get blk_getE upd_same oneCells_blk paste_blk cut_blk szOf
attribute [local go_sem high] paste_all cut_head
attribute [local go_sem] rowAt_alloc rowAt_drew rowAt_drewN isRow_alloc isRow_drew isRow_drewN freeRow_alloc freeRow_end freeRow_drew freeRow_drewN
attribute [local go_sem] setRow_alloc setRow_drew setRow_drewN setCell_drewN alloc_drewN rowAt_put isRow_setRow freeRow_put
attribute [local go_sem ↓] loadS_in storeS_in indexS_in copyS_in
attribute [local go_sem] loadS_row loadS_one storeS_row storeS_one indexS_blk copyS_rows run_equalIn_blk same_refl arrayAt_row
attribute [local go_sem] cell_row frozen_row st_setCell st_blk_ne stepAt stepUpon
attribute [local go_sem high] run_eql_blk run_neq_blk
attribute [local go_sem ↓] convBS_in
attribute [local go_sem] convBS_row convBS_nil allBytes_blk bytesOf_blk
attribute [local go_sem] rg_size rg_get0 rg_getE0 rg_ne rg_set0 rg_one rg_cut rg_key rg_put rg_paste part_rg0 part_rg1
attribute [local go_sem] size_cn agg_cn cn_size cn_get0 cn_get1 cn_getE0 cn_getE1 cn_set0 cn_set1 cn_ne cn_one cn_cut cn_paste
attribute [local go_sem] br_size br_get0 br_get1 br_get2 br_getE0 br_getE1 br_getE2 br_ne br_ring br_count br_whole br_put_ring br_put_count br_paste br_one size_br agg_br

/-- a text in secret, by the newest key of a ring -/
def sealedT (n : Nat) (f : Nat → UInt8) (e c : Nat) (p t : ByteArray) : ByteArray := sealS (Ci.rounds (keyB f (n - 1))) (ofText (nonceS e c)) p t
def putRealS (b : Br) (p t : ByteArray) : ByteArray := if takeE b = 0 then headS b.n (nonceS b.e b.c) ++ sealedT b.n b.f b.e b.c p t else ⟨#[]⟩
theorem sealText_at (n : Nat) (f : Nat → UInt8) (e c : Nat) (p t : ByteArray) (hp : p.size < 2 ^ 39) (ht : t.size < 2 ^ 39) (w : World) : Calls Tryz.prog 53 #[.agg (blk 16 (keyB f (n - 1))), .string (nonceS e c), .string p, .string t] w fun e' w' => e' = .returned (.tuple #[.string (sealedT n f e c p t), .int .i64 0]) ∧ Below w.heap.size w w' :=
  gcSeal_any (keyB f (n - 1)) (nonceS e c) p t (by omega) (by omega) (nonceS_size _ _) w
theorem takeE_n {b : Br} (h : takeE b = 0) : 1 ≤ b.n := by
  unfold takeE at h
  split at h
  · cases h
  · omega
theorem put_no (b : Br) (hm : b.md = true) (hE : takeE b ≠ 0) (p t : ByteArray) (g : Nat) (v w0 w : World) (L : List (Nat × Array Value)) (hC : Sk v w0 ((g, br b) :: L) w) : Calls Tryz.prog 23 #[.pointer (some ⟨g, 0, none⟩), .string p, .string t] w fun r w' => r = .returned (.tuple #[.string ⟨#[]⟩, .int .i64 ((takeE b : Nat) : Int)]) ∧ Sk v w0 ((g, br b) :: L) w' := by
  have HC := Lib.hid hC
  have HT := Lib.hid (take_sk b hm g v w0 w L hC)
  clear hC
  have e1 : takeS b = ⟨#[]⟩ := by unfold takeS; rw [if_neg hE]
  have e2 : b.took = b := by unfold Br.took; rw [if_neg hE]
  rw [e1, e2] at HT
  have d1 : (((takeE b : Nat) : Int) != 0) = true := by rw [bne_iff_ne]; omega
  obtain ⟨E, hEE⟩ : ∃ E, takeE b = E := ⟨_, rfl⟩
  rw [hEE] at d1 HT ⊢
  clear e1 e2 hE hm hEE
  go_enter Tryz.func23, Tryz.ntmps23
  go_wp2_with fail
  refine HT.out.mono ?_; rintro r w1 ⟨rfl, hC⟩
  have HC := Lib.hid hC
  clear hC
  go_wp2_with fail
  go_ret2
  exact ⟨rfl, HC.out⟩
set_option maxRecDepth 100000 in
set_option maxHeartbeats 2000000 in
theorem put_real (b : Br) (hm : b.md = true) (hkd : b.kd = 0) (h6 : b.n ≤ 6) (hE : takeE b = 0) (p t : ByteArray) (hp : p.size < 2 ^ 39) (ht : t.size < 2 ^ 39) (g : Nat) (v w0 w : World) (L : List (Nat × Array Value)) (hC : Sk v w0 ((g, br b) :: L) w) : Calls Tryz.prog 23 #[.pointer (some ⟨g, 0, none⟩), .string p, .string t] w fun r w' => r = .returned (.tuple #[.string (headS b.n (nonceS b.e b.c) ++ sealedT b.n b.f b.e b.c p t), .int .i64 0]) ∧ Sk v w0 ((g, br { b with c := b.c + 1 }) :: L) w' := by
  have hz := zero16
  have HC := Lib.hid hC
  have HT := Lib.hid (take_sk b hm g v w0 w L hC)
  have hn1 := takeE_n hE
  have hkI : ((b.kd : Int) == 1) = false := by rw [hkd]; rfl
  clear hC
  have e1 : takeS b = nonceS b.e b.c := by unfold takeS; rw [if_pos hE]
  have e2 : b.took = { b with c := b.c + 1 } := by unfold Br.took; rw [if_pos hE]
  rw [e1, e2, hE] at HT
  clear e1 e2 hE hm hkd
  have T0 := Lib.hid (key_yes b.n b.f b.n (b.n - 1) (by omega) (Nat.le_refl _) h6)
  have T2 := Lib.hid (sealText_at b.n b.f b.e b.c p t hp ht)
  have T3 := Lib.hid (fun w => head_any b.n h6 (nonceS b.e b.c) (by rw [nonceS_size]; omega) w)
  obtain ⟨SR, hSR⟩ : ∃ SR, sealedT b.n b.f b.e b.c p t = SR := ⟨_, rfl⟩
  have hsr : SR.size = t.size + 16 := by rw [← hSR]; unfold sealedT; rw [sealS_size]
  obtain ⟨HS, hHS⟩ : ∃ HS, headS b.n (nonceS b.e b.c) = HS := ⟨_, rfl⟩
  have hhs : HS.size = 16 := by rw [← hHS]; unfold headS; rw [ByteArray.size_append, strOf_size, nonceS_size]
  have hsz : HS.size + SR.size ≤ 9223372036854775807 := by omega
  rw [hSR] at T2 ⊢
  rw [hHS] at T3 ⊢
  clear hSR hHS hsr hhs h6 hn1 hp ht
  go_enter Tryz.func23, Tryz.ntmps23
  go_wp2_with fail
  refine HT.out.mono ?_; rintro r w1 ⟨rfl, hC⟩
  have HC := Lib.hid hC
  clear hC
  (obtain ⟨r1, f1, i1, b1, l1⟩ := St.facts1 (HC.out.pick [0] (by decide) rfl))
  go_wp2_with fail
  (clear r1 f1 i1 b1 l1)
  refine (term_any b.n b.f _).mono ?_; rintro e w2 ⟨rfl, hw⟩
  have HC := Lib.hid (HC.out.call hw)
  clear hw
  (obtain ⟨r1, f1, i1, b1, l1⟩ := St.facts1 (HC.out.pick [0] (by decide) rfl))
  go_wp2_with fail
  (clear r1 f1 i1 b1 l1)
  refine (T0.out _).mono ?_; rintro e w3 ⟨rfl, hw⟩
  have HC := Lib.hid (HC.out.call hw)
  clear hw
  (obtain ⟨r1, f1, i1, b1, l1⟩ := St.facts1 (HC.out.pick [0] (by decide) rfl))
  go_wp2_with fail
  (clear r1 f1 i1 b1 l1)
  have HC := Lib.hid (HC.out.push (blk 16 (keyB b.f (b.n - 1))) 41)
  refine (T2.out _).mono ?_; rintro e w4 ⟨rfl, hw⟩
  have HC := Lib.hid (HC.out.call hw)
  clear hw
  (obtain ⟨⟨r1, f1, i1, b1, l1⟩, ⟨r2, f2, i2, b2, l2⟩, m12, m21⟩ := St.facts2 (HC.out.pick [0, 1] (by decide) rfl))
  go_wp2_with fail
  (clear r1 f1 i1 b1 l1 r2 f2 i2 b2 l2 m12 m21)
  refine (T3.out _).mono ?_; rintro e w5 ⟨rfl, hw⟩
  have HC := Lib.hid (HC.out.call hw)
  clear hw
  (obtain ⟨⟨r1, f1, i1, b1, l1⟩, ⟨r2, f2, i2, b2, l2⟩, m12, m21⟩ := St.facts2 (HC.out.pick [0, 1] (by decide) rfl))
  go_wp2_with fail
  go_ret2
  exact ⟨rfl, HC.out.tail⟩

/-! ### Get -/
def openR (k : Nat → UInt8) (nn a s : ByteArray) : ByteArray × Nat := if tagged (Ci.rounds k) (ofText nn) a s = true then (strS (Ci.rounds k) (ofText nn) 2 (cutS s), 0) else (⟨#[]⟩, 11)
theorem openR_at (k : Nat → UInt8) (nn a s : ByteArray) (ha : a.size < 2 ^ 40) (hs : s.size < 2 ^ 40) (h : nn.size = 12) (hl : 16 ≤ s.size) (w : World) : Calls Tryz.prog 45 #[.agg (blk 16 k), .string nn, .string a, .string s] w fun e w' => e = .returned (.tuple #[.string (openR k nn a s).1, .int .i64 (((openR k nn a s).2 : Nat) : Int)]) ∧ Below w.heap.size w w' := by
  unfold openR
  split
  · rename_i hk; exact gcOpen_full k nn a s ha hs h hl true hk _ 0 (.inl ⟨rfl, rfl, rfl⟩) w
  · rename_i hk; exact gcOpen_full k nn a s ha hs h hl false (by simpa using hk) _ 11 (.inr ⟨rfl, rfl, rfl⟩) w
/-- what an ideal barrier tells of a text that was told at a path -/
def idealR (x : Option (ByteArray × ByteArray)) (p r : ByteArray) : ByteArray × Nat := match x with
  | none => (⟨#[]⟩, 11)
  | some (q, t) => if q = p ∧ r = strOf (t.size + 16) (fun _ => 0) then (t, 0) else (⟨#[]⟩, 11)
/-- what is got -/
def getO (ideal : Bool) (n : Nat) (f : Nat → UInt8) (N : ByteArray → Option (ByteArray × ByteArray)) (p s : ByteArray) : ByteArray × Nat :=
  if n = 0 then (⟨#[]⟩, 12) else if s.size < 32 then (⟨#[]⟩, 3) else if numAt s 0 4 < 1 ∨ n < numAt s 0 4 then (⟨#[]⟩, 6) else
    if ideal = true then idealR (N (s.extract 4 16)) p (s.extract 16 s.size) else openR (keyB f (numAt s 0 4 - 1)) (s.extract 4 16) p (s.extract 16 s.size)
set_option maxRecDepth 100000 in
set_option maxHeartbeats 2000000 in
theorem get_sealed (b : Br) (hm : b.md = true) (hn : b.n = 0) (p s : ByteArray) (g : Nat) (w0 w : World) (L : List (Nat × Array Value)) (hC : St w0 ((g, br b) :: L) w) : Calls Tryz.prog 12 #[.pointer (some ⟨g, 0, none⟩), .string p, .string s] w fun r w' => r = .returned (.tuple #[.string ⟨#[]⟩, .int .i64 12]) ∧ Below w.heap.size w w' := by
  have HS := Lib.hid (state_made b hm g w0 w L hC 12 (.inl ⟨hn, rfl⟩))
  have HC := Lib.hid (St.nil w)
  clear hC hm hn
  go_enter Tryz.func12, Tryz.ntmps12
  go_wp2_with fail
  refine (HS.out).mono ?_; rintro e w1 ⟨rfl, hw⟩
  have HC := Lib.hid (HC.out.call hw)
  clear hw
  go_wp2_with fail
  go_ret2
  exact ⟨rfl, HC.out.below⟩
set_option maxRecDepth 100000 in
set_option maxHeartbeats 2000000 in
theorem get_short (b : Br) (hm : b.md = true) (hn : b.n ≠ 0) (p s : ByteArray) (hs : s.size < 32) (g : Nat) (w0 w : World) (L : List (Nat × Array Value)) (hC : St w0 ((g, br b) :: L) w) : Calls Tryz.prog 12 #[.pointer (some ⟨g, 0, none⟩), .string p, .string s] w fun r w' => r = .returned (.tuple #[.string ⟨#[]⟩, .int .i64 3]) ∧ Below w.heap.size w w' := by
  have HS := Lib.hid (state_made b hm g w0 w L hC 0 (.inr ⟨hn, rfl⟩))
  have T1 := Lib.hid (parts_short s hs)
  have HC := Lib.hid (St.nil w)
  clear hC hm hn hs
  go_enter Tryz.func12, Tryz.ntmps12
  go_wp2_with fail
  refine (HS.out).mono ?_; rintro e w1 ⟨rfl, hw⟩
  have HC := Lib.hid (HC.out.call hw)
  clear hw
  go_wp2_with fail
  refine (T1.out _).mono ?_; rintro e w2 ⟨rfl, hw⟩
  have HC := Lib.hid (HC.out.call hw)
  clear hw
  go_wp2_with fail
  go_ret2
  exact ⟨rfl, HC.out.below⟩
set_option maxRecDepth 100000 in
set_option maxHeartbeats 2000000 in
theorem get_none (b : Br) (hm : b.md = true) (hn : b.n ≠ 0) (p s : ByteArray) (h : 32 ≤ s.size) (hs : s.size < 2 ^ 40) (ht : numAt s 0 4 < 1 ∨ b.n < numAt s 0 4) (g : Nat) (w0 w : World) (L : List (Nat × Array Value)) (hC : St w0 ((g, br b) :: L) w) : Calls Tryz.prog 12 #[.pointer (some ⟨g, 0, none⟩), .string p, .string s] w fun r w' => r = .returned (.tuple #[.string ⟨#[]⟩, .int .i64 6]) ∧ Below w.heap.size w w' := by
  have hz := zero16
  have HS := Lib.hid (state_made b hm g w0 w L hC 0 (.inr ⟨hn, rfl⟩))
  have T1 := Lib.hid (parts_any s h hs)
  have T2 := Lib.hid (key_no b.n b.f ((numAt s 0 4 : Nat) : Int) (by omega))
  obtain ⟨N, hN⟩ : ∃ N, numAt s 0 4 = N := ⟨_, rfl⟩
  rw [hN] at T1 T2
  have HB := Lib.hid hC
  have HC := Lib.hid (St.nil w)
  clear hC hm hn hs h ht hN
  go_enter Tryz.func12, Tryz.ntmps12
  go_wp2_with fail
  refine HS.out.mono ?_; rintro e w1 ⟨rfl, hw⟩
  have HB := Lib.hid (HB.out.call hw)
  have HC := Lib.hid (HC.out.call hw)
  clear hw
  go_wp2_with fail
  refine (T1.out _).mono ?_; rintro e w2 ⟨rfl, hw⟩
  have HB := Lib.hid (HB.out.call hw)
  have HC := Lib.hid (HC.out.call hw)
  clear hw
  obtain ⟨r1, f1, i1, b1, l1⟩ := St.facts1 (HB.out.pick [0] (by decide) rfl)
  go_wp2_with fail
  refine (T2.out _).mono ?_; rintro e w3 ⟨rfl, hw⟩
  have HC := Lib.hid (HC.out.call hw)
  clear hw
  go_wp2_with fail
  go_ret2
  exact ⟨rfl, (HC.out.skip _).below⟩
set_option maxRecDepth 100000 in
set_option maxHeartbeats 2000000 in
theorem get_real (b : Br) (hm : b.md = true) (hkd : b.kd = 0) (hn : b.n ≠ 0) (h6 : b.n ≤ 6) (p s : ByteArray) (h : 32 ≤ s.size) (hs : s.size < 2 ^ 40) (hp : p.size < 2 ^ 40) (ht : ¬ (numAt s 0 4 < 1 ∨ b.n < numAt s 0 4)) (R : ByteArray × Nat) (hR : openR (keyB b.f (numAt s 0 4 - 1)) (s.extract 4 16) p (s.extract 16 s.size) = R) (g : Nat) (w0 w : World) (L : List (Nat × Array Value)) (hC : St w0 ((g, br b) :: L) w) : Calls Tryz.prog 12 #[.pointer (some ⟨g, 0, none⟩), .string p, .string s] w fun r w' => r = .returned (.tuple #[.string R.1, .int .i64 ((R.2 : Nat) : Int)]) ∧ Below w.heap.size w w' := by
  have hz := zero16
  have HS := Lib.hid (state_made b hm g w0 w L hC 0 (.inr ⟨hn, rfl⟩))
  have T1 := Lib.hid (parts_any s h hs)
  have T2 := Lib.hid (key_yes b.n b.f (numAt s 0 4) (numAt s 0 4 - 1) (by omega) (by omega) h6)
  have T3 := Lib.hid (openR_at (keyB b.f (numAt s 0 4 - 1)) (s.extract 4 16) p (s.extract 16 s.size) hp (by rw [ByteArray.size_extract]; omega) (by rw [ByteArray.size_extract]; omega) (by rw [ByteArray.size_extract]; omega))
  have hkI : ((b.kd : Int) != 1) = true := by rw [hkd]; rfl
  obtain ⟨N, hN⟩ : ∃ N, numAt s 0 4 = N := ⟨_, rfl⟩
  rw [hR] at T3
  rw [hN] at T1 T2 T3
  have HB := Lib.hid hC
  have HC := Lib.hid (St.nil w)
  clear hC hm hn hs h ht hN hR hp hkd
  go_enter Tryz.func12, Tryz.ntmps12
  go_wp2_with fail
  refine HS.out.mono ?_; rintro e w1 ⟨rfl, hw⟩
  have HB := Lib.hid (HB.out.call hw)
  have HC := Lib.hid (HC.out.call hw)
  clear hw
  go_wp2_with fail
  refine (T1.out _).mono ?_; rintro e w2 ⟨rfl, hw⟩
  have HB := Lib.hid (HB.out.call hw)
  have HC := Lib.hid (HC.out.call hw)
  clear hw
  obtain ⟨r1, f1, i1, b1, l1⟩ := St.facts1 (HB.out.pick [0] (by decide) rfl)
  go_wp2_with fail
  refine (T2.out _).mono ?_; rintro e w3 ⟨rfl, hw⟩
  have HB := Lib.hid ((HB.out.call hw).skip (.cells (blk 16 (keyB b.f (N - 1))) 41))
  have HC := Lib.hid ((HC.out.call hw).push (blk 16 (keyB b.f (N - 1))) 41)
  clear hw r1 f1 i1 b1 l1
  obtain ⟨r1, f1, i1, b1, l1⟩ := St.facts1 (HB.out.pick [0] (by decide) rfl)
  obtain ⟨r2, f2, i2, b2, l2⟩ := St.facts1 HC.out
  go_wp2_with fail
  refine (T3.out _).mono ?_; rintro e w4 ⟨rfl, hw⟩
  have HC := Lib.hid (HC.out.call hw)
  clear hw
  go_wp2_with fail
  go_ret2
  exact ⟨rfl, HC.out.below⟩
end Go.Proofs.YtgaecjhghpkcoaaGreat
