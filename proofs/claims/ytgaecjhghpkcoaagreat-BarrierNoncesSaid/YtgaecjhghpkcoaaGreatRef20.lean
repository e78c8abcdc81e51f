/- The reference's keys: Derive, Rotate, Text. Lists of no more than six keys. -/
import Derived.Test.YtgaecjhghpkcoaaGreatParse
import Derived.Deep.RegionLaw
namespace Go.Proofs.YtgaecjhghpkcoaaGreat
open Go.RowKit
attribute [local go_sem] B_xor B_or B_and
attribute [local go_sem] blk_set blk_size blk_get blk_getE upd_same oneCells_blk paste_blk cut_blk szOf
attribute [local go_sem high] paste_all cut_head
attribute [local go_sem] rowAt_alloc rowAt_drew rowAt_drewN isRow_alloc isRow_drew isRow_drewN freeRow_alloc freeRow_end freeRow_drew freeRow_drewN
attribute [local go_sem] setRow_alloc setRow_drew setRow_drewN setCell_drewN alloc_drewN rowAt_put isRow_setRow freeRow_put
attribute [local go_sem ↓] loadS_in storeS_in indexS_in copyS_in
attribute [local go_sem] loadS_row loadS_one storeS_row storeS_one indexS_blk copyS_rows run_equalIn_blk same_refl arrayAt_row
attribute [local go_sem] cell_row frozen_row st_setCell st_blk_ne stepAt stepUpon
attribute [local go_sem high] run_eql_blk run_neq_blk
attribute [local go_sem ↓] convBS_in
attribute [local go_sem] convBS_row convBS_nil allBytes_blk bytesOf_blk

set_option maxRecDepth 100000 in
set_option maxHeartbeats 1000000 in
theorem refDerive_no (m : Nat → UInt8) (t : Int) (h : t < 1 ∨ 6 < t) (w : World) : Calls Tryz.prog 68 #[.agg (blk 16 m), .int .i64 t] w fun e w' => e = .returned (.tuple #[.agg (blk 16 fun _ => 0), .int .i64 2]) ∧ Below w.heap.size w w' := by
  have hz := zero16
  have HC := Lib.hid ((((St.nil w).pushA (blk 16 m) 22 rfl).pushA (blk 16 fun _ => 0) 22 (g := w.heap.size + 1) (by simp)).pushA (blk 16 fun _ => 0) 22 (g := w.heap.size + 1 + 1) (by simp))
  by_cases h1 : t < 1
  · have d1 : decide (t < 1) = true := decide_eq_true h1
    clear h
    go_enter Tryz.func68, Tryz.ntmps68
    go_wp2_with fail
    refine bodyPost_ret (results_pair rfl _ (w.heap.size + 1) rfl (blk 16 fun _ => 0) ?_ ?_ ?_ ?_ (.int .i64 2) rfl) rfl ⟨rfl, ?_⟩
    · simp [go_sem, *]
    · simp [go_sem]
    · simp [go_sem]
    · simp [go_sem, *]
    · exact HC.out.below
  · have d1 : decide (t < 1) = false := decide_eq_false h1
    have d2 : decide (6 < t) = true := decide_eq_true (by omega)
    clear h
    go_enter Tryz.func68, Tryz.ntmps68
    go_wp2_with fail
    refine bodyPost_ret (results_pair rfl _ (w.heap.size + 1) rfl (blk 16 fun _ => 0) ?_ ?_ ?_ ?_ (.int .i64 2) rfl) rfl ⟨rfl, ?_⟩
    · simp [go_sem, *]
    · simp [go_sem]
    · simp [go_sem]
    · simp [go_sem, *]
    · exact HC.out.below
set_option maxRecDepth 100000 in
set_option maxHeartbeats 4000000 in
theorem refDerive_yes (m : Nat → UInt8) (t : Nat) (h1 : 1 ≤ t) (h6 : t ≤ 6) (w : World) : Calls Tryz.prog 68 #[.agg (blk 16 m), .int .i64 (t : Int)] w fun e w' => e = .returned (.tuple #[.agg (blk 16 (deriveB m t)), .int .i64 0]) ∧ Below w.heap.size w w' := by
  have hz := zero16
  have v1 := byte_of t
  have d1 : decide ((t : Int) < 1) = false := decide_eq_false (by omega)
  have d2 : decide (6 < (t : Int)) = false := decide_eq_false (by omega)
  have HC := Lib.hid ((((St.nil w).pushA (blk 16 m) 22 rfl).pushA (blk 16 fun _ => 0) 22 (g := w.heap.size + 1) (by simp)).pushA (blk 16 (upd (fun _ => 0) 15 (UInt8.ofNat t))) 22 (g := w.heap.size + 1 + 1) (by simp))
  go_enter Tryz.func68, Tryz.ntmps68
  go_wp2_with fail
  refine St.region_tail 4 HC.out (by kernel_rfl) (by decide +kernel) ?_
  (simp only [List.take, List.drop])
  (first
     | (apply head_skip rfl)
     | (apply head_step_g rfl
        focus
          intro w0 hC
          (fail))
     | (apply head_step_g rfl
        focus
          intro w0 hC
          have hC' := Lib.hid hC
          obtain ⟨⟨r1, f1, i1, b1, l1⟩, ⟨r2, f2, i2, b2, l2⟩, ⟨r3, f3, i3, b3, l3⟩, m12, m21, m13, m31, m23, m32⟩ := St.facts3 hC
          clear hC
          go_simp
          have hC := hC'.out
          (first
             | with_reducible rfl
             | (skip
                (first
                   | (go_at_call 92; refine (refExpand_any _ _).mono ?_)
                   | (go_at_call 91; refine (refSeal_any _ _ _).mono ?_))
                rintro e w' ⟨rfl, hw⟩
                exact ⟨rfl, St.call (by assumption) hw⟩)))
   try simp only [Act.put, List.setIfInBounds_toArray, List.set])
  (first
     | (apply head_skip rfl)
     | (apply head_step_g rfl
        focus
          intro w0 hC
          (fail))
     | (apply head_step_g rfl
        focus
          intro w0 hC
          have hC' := Lib.hid hC
          obtain ⟨⟨r1, f1, i1, b1, l1⟩, ⟨r2, f2, i2, b2, l2⟩, ⟨r3, f3, i3, b3, l3⟩, m12, m21, m13, m31, m23, m32⟩ := St.facts3 hC
          clear hC
          go_simp
          have hC := hC'.out
          (first
             | with_reducible rfl
             | (skip
                (first
                   | (go_at_call 92; refine (refExpand_any _ _).mono ?_)
                   | (go_at_call 91; refine (refSeal_any _ _ _).mono ?_))
                rintro e w' ⟨rfl, hw⟩
                exact ⟨rfl, St.call (by assumption) hw⟩)))
   try simp only [Act.put, List.setIfInBounds_toArray, List.set])
  (first
     | (apply head_skip rfl)
     | (apply head_step_g rfl
        focus
          intro w0 hC
          (fail))
     | (apply head_step_g rfl
        focus
          intro w0 hC
          have hC' := Lib.hid hC
          obtain ⟨⟨r1, f1, i1, b1, l1⟩, ⟨r2, f2, i2, b2, l2⟩, ⟨r3, f3, i3, b3, l3⟩, m12, m21, m13, m31, m23, m32⟩ := St.facts3 hC
          clear hC
          go_simp
          have hC := hC'.out
          (first
             | with_reducible rfl
             | (skip
                (first
                   | (go_at_call 92; refine (refExpand_any _ _).mono ?_)
                   | (go_at_call 91; refine (refSeal_any _ _ _).mono ?_))
                rintro e w' ⟨rfl, hw⟩
                exact ⟨rfl, St.call (by assumption) hw⟩)))
   try simp only [Act.put, List.setIfInBounds_toArray, List.set])
  (first
     | (apply head_skip rfl)
     | (apply head_step_g rfl
        focus
          intro w0 hC
          (fail))
     | (apply head_step_g rfl
        focus
          intro w0 hC
          have hC' := Lib.hid hC
          obtain ⟨⟨r1, f1, i1, b1, l1⟩, ⟨r2, f2, i2, b2, l2⟩, ⟨r3, f3, i3, b3, l3⟩, m12, m21, m13, m31, m23, m32⟩ := St.facts3 hC
          clear hC
          go_simp
          have hC := hC'.out
          (first
             | with_reducible rfl
             | (skip
                (first
                   | (go_at_call 92; refine (refExpand_any _ _).mono ?_)
                   | (go_at_call 91; refine (refSeal_any _ _ _).mono ?_))
                rintro e w' ⟨rfl, hw⟩
                exact ⟨rfl, St.call (by assumption) hw⟩)))
   try simp only [Act.put, List.setIfInBounds_toArray, List.set])
  refine wpQuiet_nil ?_
  intro w2 hC
  clear HC
  (have HC := Lib.hid hC
   have sos := hC.below.os
   obtain ⟨⟨r1, f1, i1, b1, l1⟩, ⟨r2, f2, i2, b2, l2⟩, ⟨r3, f3, i3, b3, l3⟩, m12, m21, m13, m31, m23, m32⟩ := St.facts3 hC
   clear hC)
  go_wp2_with fail
  refine bodyPost_ret (results_pair rfl _ (w.heap.size + 1) rfl (blk 16 (deriveB m t)) ?_ ?_ ?_ ?_ (.int .i64 0) rfl) rfl ⟨rfl, ?_⟩
  · simp [go_sem, *]; rfl
  · simp [go_sem]
  · simp [go_sem]
  · simp [go_sem, *]
  · exact below_setRow' HC.out.below (by omega) _
/-- a list of keys: how many, and their bytes, as it reads in a world -/
def Keys16 (w : World) (v : Value) (n : Nat) (f : Nat → UInt8) : Prop := (v = .slice none 0 0 ∧ n = 0) ∨ ∃ g c F, v = .slice (some ⟨g, 0, none⟩) n c ∧ n ≤ c ∧ g < w.heap.size ∧ rowAt w g = blk (c * 16) F ∧ isRow w g = true ∧ ∀ i, i < n * 16 → F i = f i
theorem Keys16.call {w w' : World} {v : Value} {n : Nat} {f : Nat → UInt8} (h : Keys16 w v n f) (hb : Below w.heap.size w w') : Keys16 w' v n f := by
  rcases h with h | ⟨g, c, F, h1, h2, h3, h4, h5, h6⟩
  · exact .inl h
  · exact .inr ⟨g, c, F, h1, h2, Nat.lt_of_lt_of_le h3 hb.size, (below_rowAt hb h3).trans h4, (below_isRow hb h3).trans h5, h6⟩
theorem info_key : ∃ i, Tryz.prog.info? 22 = some i ∧ i.zero = some (.agg (blk 16 fun _ => 0)) ∧ i.size = 16 ∧ i.bytes = 16 := by
  have h : (Tryz.prog.info? 22).map (fun i => (i.zero, i.size, i.bytes)) = some (some (.agg (blk 16 fun _ => 0)), 16, 16) := by kernel_rfl
  obtain ⟨i, hi, hv⟩ := Option.map_eq_some_iff.1 h
  simp only [Prod.mk.injEq] at hv
  exact ⟨i, hi, hv.1, hv.2.1, hv.2.2⟩
/-- keys behind keys of the call's own, at a step of a region that draws its order -/
theorem wp_append_keys {o : Oper} {a : Act} {K : Act → World → Prop} {Q : Exit → Act → World → Prop} {w0 w : World} {L : List (Nat × Array Value)} (s x : Operand) (ho : o.op = .call { callee := .builtin .append, args := #[s, x], argTypes := #[32, 32] })
    (g n cap : Nat) (F : Nat → UInt8) (hs : a.eval s = .slice (some ⟨g, 0, none⟩) n cap) (hC : St w0 ((g, blk (cap * 16) F) :: L) w) (hn : n ≤ cap)
    (v : Value) (m : Nat) (G : Nat → UInt8) (hx : a.eval x = v) (hv : Keys16 w v m G) (hbig : n + m ≤ 2 ^ 20)
    (h : ∀ g' cap' F' w', n + m ≤ cap' → (∀ i, i < (n + m) * 16 → F' i = glue (n * 16) F G i) → St w0 ((g', blk (cap' * 16) F') :: L) w' → K (a.put o.dst (.slice (some ⟨g', 0, none⟩) (n + m) cap')) w') : o.wp Tryz.prog a w K Q := by
  rcases hv with ⟨rfl, rfl⟩ | ⟨h2, c, F2, rfl, hc, hl, hr, hi, hF⟩
  · have hrun : (Builtin.append_ #[32, 32] o.type #[.slice (some ⟨g, 0, none⟩) n cap, .slice none 0 0]).run Tryz.prog w = .ok (.slice (some ⟨g, 0, none⟩) (n + 0) cap) w := by
      have hu : Tryz.prog.underlying 32 = some (.slice 22) := by kernel_rfl
      obtain ⟨i, hi1, _⟩ := info_key
      simp [Builtin.append_, run_underlying hu, Builtin.lenOf, Sem.run_bind, hn, sizeOf, typeInfo, hi1, Builtin.firstCells, storeCells]
    unfold Oper.wp execOp
    simp only [ho, resolve, invoke, builtin, Sem.run_bind, Sem.run_pure, Result.andThen_ok, List.map_toArray, List.map_cons, List.map_nil, hs, hx, hrun]
    refine h g cap F w hn (fun i hi => ?_) hC
    unfold glue; rw [if_pos (by omega)]
  · obtain ⟨i, hi1, hz, hsz, hb⟩ := info_key
    obtain ⟨g', cap', F', w', hrun, e1, e2, e3⟩ := run_append_row (P := Tryz.prog) w 32 o.type 22 i _ 16 (by kernel_rfl) hi1 hz hsz hb rfl (by omega) g n cap F hC hn h2 0 m c F2 hi (by rw [hr, blk_size]; have := Nat.mul_le_mul_right 16 hc; omega)
      (by rw [hr]; exact cut_blk0 _ _ _ (Nat.mul_le_mul_right 16 hc)) (by omega)
    unfold Oper.wp execOp
    simp only [ho, resolve, invoke, builtin, Sem.run_bind, Sem.run_pure, Result.andThen_ok, List.map_toArray, List.map_cons, List.map_nil, hs, hx, hrun]
    refine h g' cap' F' w' e1 (fun i hi => ?_) e3
    rw [e2 i hi]
    unfold glue
    split
    · rfl
    · exact hF _ (by omega)
theorem step_append_keys {ops : Array Oper} {o : Oper} {a : Act} {K : Act → World → Prop} {Q : Exit → Act → World → Prop} {E : Prop} {w0 w : World} {L : List (Nat × Array Value)} (hgd : o.guard = none) (s x : Operand) (ho : o.op = .call { callee := .builtin .append, args := #[s, x], argTypes := #[32, 32] })
    (g n cap : Nat) (F : Nat → UInt8) (hs : a.eval s = .slice (some ⟨g, 0, none⟩) n cap) (hC : St w0 ((g, blk (cap * 16) F) :: L) w) (hn : n ≤ cap)
    (v : Value) (m : Nat) (G : Nat → UInt8) (hx : a.eval x = v) (hv : Keys16 w v m G) (hbig : n + m ≤ 2 ^ 20)
    (h : ∀ g' cap' F' w', n + m ≤ cap' → (∀ i, i < (n + m) * 16 → F' i = glue (n * 16) F G i) → St w0 ((g', blk (cap' * 16) F') :: L) w' → K (a.put o.dst (.slice (some ⟨g', 0, none⟩) (n + m) cap')) w') :
    if Region.wanted o (yielded ops a.tmps) = true then Oper.wp Tryz.prog o a w K Q else E := by
  have hw : Region.wanted o (yielded ops a.tmps) = true := by simp [Region.wanted, hgd]
  rw [if_pos hw]
  exact wp_append_keys s x ho g n cap F hs hC hn v m G hx hv hbig h
theorem Keys16.of {w0 w : World} {L : List (Nat × Array Value)} {g n c : Nat} {F f : Nat → UInt8} (hC : St w0 L w) (hm : (g, blk (c * 16) F) ∈ L) (hn : n ≤ c) (hF : ∀ i, i < n * 16 → F i = f i) : Keys16 w (.slice (some ⟨g, 0, none⟩) n c) n f := by
  obtain ⟨⟨h1, h2⟩, h3, h4, h5⟩ := hC.get hm
  exact .inr ⟨g, c, F, rfl, hn, h2, h3, h5, hF⟩
theorem build_key (g : Nat → UInt8) : Array.foldl (fun (cs : Array Value) (x : Value × Nat) => cs.setIfInBounds x.snd x.fst) #[.int .u8 (B 0), .int .u8 (B 0), .int .u8 (B 0), .int .u8 (B 0), .int .u8 (B 0), .int .u8 (B 0), .int .u8 (B 0), .int .u8 (B 0), .int .u8 (B 0), .int .u8 (B 0), .int .u8 (B 0), .int .u8 (B 0), .int .u8 (B 0), .int .u8 (B 0), .int .u8 (B 0), .int .u8 (B 0)] (blk 16 g).zipIdx 0 16 = blk 16 g := by
  have e : #[.int .u8 (B 0), .int .u8 (B 0), .int .u8 (B 0), .int .u8 (B 0), .int .u8 (B 0), .int .u8 (B 0), .int .u8 (B 0), .int .u8 (B 0), .int .u8 (B 0), .int .u8 (B 0), .int .u8 (B 0), .int .u8 (B 0), .int .u8 (B 0), .int .u8 (B 0), .int .u8 (B 0), .int .u8 (B 0)] = blk 16 (fun _ => 0) := by kernel_rfl
  rw [e, build_blk0 16 16 (fun _ => 0) g (Nat.le_refl _)]
  refine blk_congr fun i hi => ?_
  unfold cpy
  rw [if_pos (by omega)]
  congr 1; omega
attribute [local go_sem] build_key
/-- a list of n keys, in a block of the call's own, and that there is no error -/
def Keyed (w0 : World) (L : List (Nat × Array Value)) (n : Nat) (f : Nat → UInt8) (e : Ending) (w : World) : Prop := ∃ g c F, e = .returned (.tuple #[.slice (some ⟨g, 0, none⟩) n c, .int .i64 0]) ∧ n ≤ c ∧ (∀ i, i < n * 16 → F i = f i) ∧ St w0 ((g, blk (c * 16) F) :: L) w
theorem Keyed.mk {w0 w : World} {L : List (Nat × Array Value)} {n : Nat} {f : Nat → UInt8} {e : Ending} (g c : Nat) (F : Nat → UInt8) (he : e = .returned (.tuple #[.slice (some ⟨g, 0, none⟩) n c, .int .i64 0])) (hn : n ≤ c) (hF : ∀ i, i < n * 16 → F i = f i) (hC : St w0 ((g, blk (c * 16) F) :: L) w) : Keyed w0 L n f e w := ⟨g, c, F, he, hn, hF, hC⟩
theorem addB_glue {n : Nat} {f k F F2 : Nat → UInt8} {Z : Nat → UInt8} (h1 : ∀ i, i < (0 + n) * 16 → F i = glue (0 * 16) Z f i) (h2 : ∀ i, i < (n + 1) * 16 → F2 i = glue (n * 16) F k i) : ∀ i, i < (n + 1) * 16 → F2 i = addB f n k i := by
  intro i hi
  rw [h2 i hi]
  unfold glue addB cpy
  by_cases h : i < n * 16
  · rw [if_pos h, if_neg (by omega), h1 i (by omega)]
    unfold glue; rw [if_neg (by omega)]
    rfl
  · rw [if_neg h, if_pos (by omega), Nat.zero_add]
set_option maxRecDepth 100000 in
set_option maxHeartbeats 1000000 in
theorem refRotate_yes (v : Value) (n : Nat) (f m : Nat → UInt8) (hn : n ≤ 5) (w0 w : World) (L : List (Nat × Array Value)) (hv : Keys16 w v n f) (hC : St w0 L w) :
    Calls Tryz.prog 41 #[v, .agg (blk 16 m)] w (Keyed w0 L (n + 1) (addB f n (deriveB m (n + 1)))) := by
  have hz := zero16
  have HV := Lib.hid hv
  have HC := Lib.hid hC
  have n5 : (n : Int) ≤ 5 := by omega
  obtain ⟨a, c, rfl⟩ : ∃ a c, v = .slice a n c := by
    rcases hv with ⟨rfl, rfl⟩ | ⟨g, c, F, rfl, _⟩
    · exact ⟨_, _, rfl⟩
    · exact ⟨_, _, rfl⟩
  clear hC hv
  go_enter Tryz.func41, Tryz.ntmps41
  go_wp2_with fail
  refine (refDerive_yes m (n + 1) (by omega) (by omega) _).mono ?_; rintro e w1 ⟨rfl, hw⟩
  have HC := Lib.hid ((HC.out.skip _).call hw)
  have HV := Lib.hid ((HV.out.call ((Below.refl _ _).alloc (Nat.le_refl _) _)).call hw)
  clear hw
  go_wp2_with fail
  have HV := Lib.hid (HV.out.call ((Below.refl _ _).alloc (Nat.le_refl _) (.cells (blk 16 (deriveB m (n + 1))) 22)))
  have HC := Lib.hid (HC.out.push (blk 16 (deriveB m (n + 1))) 22)
  generalize w1.alloc (.cells (blk 16 (deriveB m (n + 1))) 22) = w2 at HC HV ⊢
  generalize w1.heap.size = g6 at HC ⊢
  have r1 := (HC.out.get (List.mem_cons_self ..)).2.1
  have i1 := (HC.out.get (List.mem_cons_self ..)).2.2.2
  have l1 := (HC.out.get (List.mem_cons_self ..)).1.2
  have m1 : (g6 = w2.heap.size) = False := by simp; omega
  have HE1 : St w0 ((w2.heap.size, blk (0 * 16) fun _ => 0) :: (g6, blk 16 (deriveB m (n + 1))) :: L) (w2.alloc (.cells #[] 22)).drew := (HC.out.push (blk (0 * 16) fun _ => 0) 22).drew
  have HE2 : St w0 ((w2.heap.size, blk (0 * 16) fun _ => 0) :: (w2.heap.size + 1, blk 16 (deriveB m (n + 1))) :: (g6, blk 16 (deriveB m (n + 1))) :: L) ((w2.alloc (.cells #[] 22)).alloc (.cells (blk 16 (deriveB m (n + 1))) 22)).drew := ((HC.out.push (blk (0 * 16) fun _ => 0) 22).pushA (blk 16 (deriveB m (n + 1))) 22 (g := w2.heap.size + 1) (by simp)).swap.drew
  have HE3 : St w0 ((w2.heap.size + 1, blk (0 * 16) fun _ => 0) :: (w2.heap.size, blk 16 (deriveB m (n + 1))) :: (g6, blk 16 (deriveB m (n + 1))) :: L) ((w2.alloc (.cells (blk 16 (deriveB m (n + 1))) 22)).alloc (.cells #[] 22)).drew := ((HC.out.push (blk 16 (deriveB m (n + 1))) 22).pushA (blk (0 * 16) fun _ => 0) 22 (g := w2.heap.size + 1) (by simp)).drew
  have HK1 : Keys16 (w2.alloc (.cells #[] 22)).drew (.slice a n c) n f := HV.out.call ((Below.refl _ _).alloc (Nat.le_refl _) _).drew
  have HK2 : Keys16 ((w2.alloc (.cells #[] 22)).alloc (.cells (blk 16 (deriveB m (n + 1))) 22)).drew (.slice a n c) n f := HV.out.call (((Below.refl _ _).alloc (Nat.le_refl _) _).alloc (by simp) _).drew
  have HK3 : Keys16 ((w2.alloc (.cells (blk 16 (deriveB m (n + 1))) 22)).alloc (.cells #[] 22)).drew (.slice a n c) n f := HV.out.call (((Below.refl _ _).alloc (Nat.le_refl _) _).alloc (by simp) _).drew
  go_region_law (first
    | (refine step_append_keys (w0 := w0) (L := (g6, (blk 16 (deriveB m (n + 1)))) :: L) ?_ (.tmp 19) (.tmp 20) ?_ (w2.heap.size) 0 0 (fun _ => 0) ?_ ?_ (Nat.le_refl _) (.slice a n c) n f ?_ ?_ ?_ ?_; rfl; rfl; rfl; (with_reducible exact HE1); rfl; (with_reducible exact HK1); omega; intro g' cap' F' w' e1 e2 e3; have r2 := (e3.get (show (g6, (blk 16 (deriveB m (n + 1)))) ∈ _ by simp)).2.1; have i2 := (e3.get (show (g6, (blk 16 (deriveB m (n + 1)))) ∈ _ by simp)).2.2.2; have l2 := (e3.get (show (g6, (blk 16 (deriveB m (n + 1)))) ∈ _ by simp)).1.2; have m2 : (g6 = w'.heap.size) = False := (by simp; omega))
    | (refine step_append_keys (w0 := w0) (L := (w2.heap.size + 1, (blk 16 (deriveB m (n + 1)))) :: (g6, (blk 16 (deriveB m (n + 1)))) :: L) ?_ (.tmp 19) (.tmp 20) ?_ (w2.heap.size) 0 0 (fun _ => 0) ?_ ?_ (Nat.le_refl _) (.slice a n c) n f ?_ ?_ ?_ ?_; rfl; rfl; rfl; (with_reducible exact HE2); rfl; (with_reducible exact HK2); omega; intro g' cap' F' w' e1 e2 e3; have r2 := (e3.get (show (g6, (blk 16 (deriveB m (n + 1)))) ∈ _ by simp)).2.1; have i2 := (e3.get (show (g6, (blk 16 (deriveB m (n + 1)))) ∈ _ by simp)).2.2.2; have l2 := (e3.get (show (g6, (blk 16 (deriveB m (n + 1)))) ∈ _ by simp)).1.2; have m2 : (g6 = w'.heap.size) = False := (by simp; omega))
    | (refine step_append_keys (w0 := w0) (L := (w2.heap.size, (blk 16 (deriveB m (n + 1)))) :: (g6, (blk 16 (deriveB m (n + 1)))) :: L) ?_ (.tmp 19) (.tmp 20) ?_ (w2.heap.size + 1) 0 0 (fun _ => 0) ?_ ?_ (Nat.le_refl _) (.slice a n c) n f ?_ ?_ ?_ ?_; rfl; rfl; rfl; (with_reducible exact HE3); rfl; (with_reducible exact HK3); omega; intro g' cap' F' w' e1 e2 e3; have r2 := (e3.get (show (g6, (blk 16 (deriveB m (n + 1)))) ∈ _ by simp)).2.1; have i2 := (e3.get (show (g6, (blk 16 (deriveB m (n + 1)))) ∈ _ by simp)).2.2.2; have l2 := (e3.get (show (g6, (blk 16 (deriveB m (n + 1)))) ∈ _ by simp)).1.2; have m2 : (g6 = w'.heap.size) = False := (by simp; omega))
    | (refine step_append_keys (w0 := w0) (L := (w'.heap.size, (blk 16 (deriveB m (n + 1)))) :: (g6, (blk 16 (deriveB m (n + 1)))) :: L) ?_ (.tmp 21) (.tmp 23) ?_ g' n cap' F' ?_ ?_ ?_ (.slice (some ⟨w'.heap.size, 0, none⟩) 1 1) 1 (deriveB m (n + 1)) ?_ ?_ ?_ ?_; rfl; rfl; rfl; (with_reducible exact (e3.push (blk 16 (deriveB m (n + 1))) 22).swap); omega; rfl; (exact Keys16.of (c := 1) (F := deriveB m (n + 1)) (e3.push (blk 16 (deriveB m (n + 1))) 22).swap (.tail _ (.head _)) (Nat.le_refl _) (fun _ _ => rfl)); omega; intro g2' cap2' F2' w2' t1 t2 t3)
    | (refine step_append_keys (w0 := w0) (L := (w2.heap.size + 1, (blk 16 (deriveB m (n + 1)))) :: (g6, (blk 16 (deriveB m (n + 1)))) :: L) ?_ (.tmp 21) (.tmp 23) ?_ g' n cap' F' ?_ ?_ ?_ (.slice (some ⟨w2.heap.size + 1, 0, none⟩) 1 1) 1 (deriveB m (n + 1)) ?_ ?_ ?_ ?_; rfl; rfl; rfl; (with_reducible exact e3); omega; rfl; (exact Keys16.of (c := 1) (F := deriveB m (n + 1)) e3 (.tail _ (.head _)) (Nat.le_refl _) (fun _ _ => rfl)); omega; intro g2' cap2' F2' w2' t1 t2 t3)
    | (refine step_append_keys (w0 := w0) (L := (w2.heap.size, (blk 16 (deriveB m (n + 1)))) :: (g6, (blk 16 (deriveB m (n + 1)))) :: L) ?_ (.tmp 21) (.tmp 23) ?_ g' n cap' F' ?_ ?_ ?_ (.slice (some ⟨w2.heap.size, 0, none⟩) 1 1) 1 (deriveB m (n + 1)) ?_ ?_ ?_ ?_; rfl; rfl; rfl; (with_reducible exact e3); omega; rfl; (exact Keys16.of (c := 1) (F := deriveB m (n + 1)) e3 (.tail _ (.head _)) (Nat.le_refl _) (fun _ _ => rfl)); omega; intro g2' cap2' F2' w2' t1 t2 t3))
  all_goals
    have T1 := Lib.hid t1
    have T2 := Lib.hid (addB_glue e2 t2)
    have T3 := Lib.hid t3.over.over
    clear t1 t2 t3 e1 e2 e3
    go_wp2_with fail
    go_ret2
    exact Keyed.mk _ _ _ rfl T1.out T2.out T3.out
theorem refRotate_no (v : Value) (f m : Nat → UInt8) (w : World) (hv : Keys16 w v 6 f) :
    Calls Tryz.prog 41 #[v, .agg (blk 16 m)] w fun e w' => e = .returned (.tuple #[v, .int .i64 19]) ∧ Below w.heap.size w w' := by
  have hz := zero16
  obtain ⟨a, c, rfl⟩ : ∃ a c, v = .slice a 6 c := by
    rcases hv with ⟨rfl, h⟩ | ⟨g, c, F, rfl, _⟩
    · cases h
    · exact ⟨_, _, rfl⟩
  clear hv
  have HC := Lib.hid ((St.nil w).skip (.cells (blk 16 m) 22))
  go_enter Tryz.func41, Tryz.ntmps41
  go_wp2_with fail
  refine (refDerive_no m 7 (by omega) _).mono ?_; rintro e w1 ⟨rfl, hw⟩
  have HC := Lib.hid (HC.out.call hw)
  clear hw
  go_wp2_with fail
  go_ret2
  exact ⟨rfl, (HC.out.skip _).below⟩
end Go.Proofs.YtgaecjhghpkcoaaGreat
