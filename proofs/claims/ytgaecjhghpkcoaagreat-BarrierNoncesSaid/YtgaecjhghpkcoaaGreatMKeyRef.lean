/- The reference's keys: Derive, Rotate, Text. Lists of no more than six keys. * The reference's Text of a list of keys. Lists of no more than six keys. * The reference's Parse of a ring's text. Texts no longer than 2 to 40. * A ring held against the reference's list of keys (Like). Rings of no more than six keys. * padlocklaw20.awake returns true; a ring is taken of its own text. -/
import Derived.Test.YtgaecjhghpkcoaaGreatMKeys
import Derived.Deep.RegionLaw
section
namespace Go.Proofs.YtgaecjhghpkcoaaGreat
open Go.RowKit
attribute [local go_sem] B_xor B_or B_and
attribute [local go_sem] blk_set blk_size blk_get blk_getE upd_same oneCells_blk paste_blk cut_blk szOf
attribute [local go_sem high] paste_all cut_head
attribute [local go_sem] rowAt_alloc rowAt_drew rowAt_drewN isRow_alloc isRow_drew isRow_drewN freeRow_alloc freeRow_end freeRow_drew freeRow_drewN
attribute [local go_sem] setRow_alloc setRow_drew setRow_drewN setCell_drewN alloc_drewN rowAt_put isRow_setRow freeRow_put
attribute [local go_sem ↓] loadS_in storeS_in indexS_in copyS_in
attribute [local go_sem] loadS_row loadS_one storeS_row storeS_one indexS_blk copyS_rows run_equalIn_blk same_refl arrayAt_row
attribute [local go_sem] cell_row frozen_row st_setCell st_blk_ne stepAt stepUpon
attribute [local go_sem high] run_eql_blk run_neq_blk
attribute [local go_sem ↓] convBS_in
attribute [local go_sem] convBS_row convBS_nil allBytes_blk bytesOf_blk

set_option maxRecDepth 100000 in
set_option maxHeartbeats 1000000 in
theorem refDerive_no (m : Nat → UInt8) (t : Int) (h : t < 1 ∨ 6 < t) (w : World) : Calls Tryz.prog 68 #[.agg (blk 16 m), .int .i64 t] w fun e w' => e = .returned (.tuple #[.agg (blk 16 fun _ => 0), .int .i64 2]) ∧ Below w.heap.size w w' := by
  have hz := zero16
  have HC := Lib.hid ((((St.nil w).pushA (blk 16 m) 22 rfl).pushA (blk 16 fun _ => 0) 22 (g := w.heap.size + 1) (by simp)).pushA (blk 16 fun _ => 0) 22 (g := w.heap.size + 1 + 1) (by simp))
  by_cases h1 : t < 1
  · have d1 : decide (t < 1) = true := decide_eq_true h1
    clear h
    go_enter Tryz.func68, Tryz.ntmps68
    go_wp2_with fail
    refine bodyPost_ret (results_pair rfl _ (w.heap.size + 1) rfl (blk 16 fun _ => 0) ?_ ?_ ?_ ?_ (.int .i64 2) rfl) rfl ⟨rfl, ?_⟩
    · simp [go_sem, *]
    · simp [go_sem]
    · simp [go_sem]
    · simp [go_sem, *]
    · exact HC.out.below
  · have d1 : decide (t < 1) = false := decide_eq_false h1
    have d2 : decide (6 < t) = true := decide_eq_true (by omega)
    clear h
    go_enter Tryz.func68, Tryz.ntmps68
    go_wp2_with fail
    refine bodyPost_ret (results_pair rfl _ (w.heap.size + 1) rfl (blk 16 fun _ => 0) ?_ ?_ ?_ ?_ (.int .i64 2) rfl) rfl ⟨rfl, ?_⟩
    · simp [go_sem, *]
    · simp [go_sem]
    · simp [go_sem]
    · simp [go_sem, *]
    · exact HC.out.below
set_option maxRecDepth 100000 in
set_option maxHeartbeats 4000000 in
theorem refDerive_yes (m : Nat → UInt8) (t : Nat) (h1 : 1 ≤ t) (h6 : t ≤ 6) (w : World) : Calls Tryz.prog 68 #[.agg (blk 16 m), .int .i64 (t : Int)] w fun e w' => e = .returned (.tuple #[.agg (blk 16 (deriveB m t)), .int .i64 0]) ∧ Below w.heap.size w w' := by
  have hz := zero16
  have v1 := byte_of t
  have d1 : decide ((t : Int) < 1) = false := decide_eq_false (by omega)
  have d2 : decide (6 < (t : Int)) = false := decide_eq_false (by omega)
  have HC := Lib.hid ((((St.nil w).pushA (blk 16 m) 22 rfl).pushA (blk 16 fun _ => 0) 22 (g := w.heap.size + 1) (by simp)).pushA (blk 16 (upd (fun _ => 0) 15 (UInt8.ofNat t))) 22 (g := w.heap.size + 1 + 1) (by simp))
  go_enter Tryz.func68, Tryz.ntmps68
  go_wp2_with fail
  refine St.region_tail 4 HC.out (by kernel_rfl) (by decide +kernel) ?_
  (simp only [List.take, List.drop])
  (first
     | (apply head_skip rfl)
     | (apply head_step_g rfl
        focus
          intro w0 hC
          (fail))
     | (apply head_step_g rfl
        focus
          intro w0 hC
          have hC' := Lib.hid hC
          obtain ⟨⟨r1, f1, i1, b1, l1⟩, ⟨r2, f2, i2, b2, l2⟩, ⟨r3, f3, i3, b3, l3⟩, m12, m21, m13, m31, m23, m32⟩ := St.facts3 hC
          clear hC
          go_simp
          have hC := hC'.out
          (first
             | with_reducible rfl
             | (skip
                (first
                   | (go_at_call 92; refine (refExpand_any _ _).mono ?_)
                   | (go_at_call 91; refine (refSeal_any _ _ _).mono ?_))
                rintro e w' ⟨rfl, hw⟩
                exact ⟨rfl, St.call (by assumption) hw⟩)))
   try simp only [Act.put, List.setIfInBounds_toArray, List.set])
  (first
     | (apply head_skip rfl)
     | (apply head_step_g rfl
        focus
          intro w0 hC
          (fail))
     | (apply head_step_g rfl
        focus
          intro w0 hC
          have hC' := Lib.hid hC
          obtain ⟨⟨r1, f1, i1, b1, l1⟩, ⟨r2, f2, i2, b2, l2⟩, ⟨r3, f3, i3, b3, l3⟩, m12, m21, m13, m31, m23, m32⟩ := St.facts3 hC
          clear hC
          go_simp
          have hC := hC'.out
          (first
             | with_reducible rfl
             | (skip
                (first
                   | (go_at_call 92; refine (refExpand_any _ _).mono ?_)
                   | (go_at_call 91; refine (refSeal_any _ _ _).mono ?_))
                rintro e w' ⟨rfl, hw⟩
                exact ⟨rfl, St.call (by assumption) hw⟩)))
   try simp only [Act.put, List.setIfInBounds_toArray, List.set])
  (first
     | (apply head_skip rfl)
     | (apply head_step_g rfl
        focus
          intro w0 hC
          (fail))
     | (apply head_step_g rfl
        focus
          intro w0 hC
          have hC' := Lib.hid hC
          obtain ⟨⟨r1, f1, i1, b1, l1⟩, ⟨r2, f2, i2, b2, l2⟩, ⟨r3, f3, i3, b3, l3⟩, m12, m21, m13, m31, m23, m32⟩ := St.facts3 hC
          clear hC
          go_simp
          have hC := hC'.out
          (first
             | with_reducible rfl
             | (skip
                (first
                   | (go_at_call 92; refine (refExpand_any _ _).mono ?_)
                   | (go_at_call 91; refine (refSeal_any _ _ _).mono ?_))
                rintro e w' ⟨rfl, hw⟩
                exact ⟨rfl, St.call (by assumption) hw⟩)))
   try simp only [Act.put, List.setIfInBounds_toArray, List.set])
  (first
     | (apply head_skip rfl)
     | (apply head_step_g rfl
        focus
          intro w0 hC
          (fail))
     | (apply head_step_g rfl
        focus
          intro w0 hC
          have hC' := Lib.hid hC
          obtain ⟨⟨r1, f1, i1, b1, l1⟩, ⟨r2, f2, i2, b2, l2⟩, ⟨r3, f3, i3, b3, l3⟩, m12, m21, m13, m31, m23, m32⟩ := St.facts3 hC
          clear hC
          go_simp
          have hC := hC'.out
          (first
             | with_reducible rfl
             | (skip
                (first
                   | (go_at_call 92; refine (refExpand_any _ _).mono ?_)
                   | (go_at_call 91; refine (refSeal_any _ _ _).mono ?_))
                rintro e w' ⟨rfl, hw⟩
                exact ⟨rfl, St.call (by assumption) hw⟩)))
   try simp only [Act.put, List.setIfInBounds_toArray, List.set])
  refine wpQuiet_nil ?_
  intro w2 hC
  clear HC
  (have HC := Lib.hid hC
   have sos := hC.below.os
   obtain ⟨⟨r1, f1, i1, b1, l1⟩, ⟨r2, f2, i2, b2, l2⟩, ⟨r3, f3, i3, b3, l3⟩, m12, m21, m13, m31, m23, m32⟩ := St.facts3 hC
   clear hC)
  go_wp2_with fail
  refine bodyPost_ret (results_pair rfl _ (w.heap.size + 1) rfl (blk 16 (deriveB m t)) ?_ ?_ ?_ ?_ (.int .i64 0) rfl) rfl ⟨rfl, ?_⟩
  · simp [go_sem, *]; rfl
  · simp [go_sem]
  · simp [go_sem]
  · simp [go_sem, *]
  · exact below_setRow' HC.out.below (by omega) _
/-- a list of keys: how many, and their bytes, as it reads in a world -/
def Keys16 (w : World) (v : Value) (n : Nat) (f : Nat → UInt8) : Prop := (v = .slice none 0 0 ∧ n = 0) ∨ ∃ g c F, v = .slice (some ⟨g, 0, none⟩) n c ∧ n ≤ c ∧ g < w.heap.size ∧ rowAt w g = blk (c * 16) F ∧ isRow w g = true ∧ ∀ i, i < n * 16 → F i = f i
theorem Keys16.call {w w' : World} {v : Value} {n : Nat} {f : Nat → UInt8} (h : Keys16 w v n f) (hb : Below w.heap.size w w') : Keys16 w' v n f := by
  rcases h with h | ⟨g, c, F, h1, h2, h3, h4, h5, h6⟩
  · exact .inl h
  · exact .inr ⟨g, c, F, h1, h2, Nat.lt_of_lt_of_le h3 hb.size, (below_rowAt hb h3).trans h4, (below_isRow hb h3).trans h5, h6⟩
theorem info_key : ∃ i, Tryz.prog.info? 22 = some i ∧ i.zero = some (.agg (blk 16 fun _ => 0)) ∧ i.size = 16 ∧ i.bytes = 16 := by
  have h : (Tryz.prog.info? 22).map (fun i => (i.zero, i.size, i.bytes)) = some (some (.agg (blk 16 fun _ => 0)), 16, 16) := by kernel_rfl
  obtain ⟨i, hi, hv⟩ := Option.map_eq_some_iff.1 h
  simp only [Prod.mk.injEq] at hv
  exact ⟨i, hi, hv.1, hv.2.1, hv.2.2⟩
/-- keys behind keys of the call's own, at a step of a region that draws its order -/
theorem wp_append_keys {o : Oper} {a : Act} {K : Act → World → Prop} {Q : Exit → Act → World → Prop} {w0 w : World} {L : List (Nat × Array Value)} (s x : Operand) (ho : o.op = .call { callee := .builtin .append, args := #[s, x], argTypes := #[32, 32] })
    (g n cap : Nat) (F : Nat → UInt8) (hs : a.eval s = .slice (some ⟨g, 0, none⟩) n cap) (hC : St w0 ((g, blk (cap * 16) F) :: L) w) (hn : n ≤ cap)
    (v : Value) (m : Nat) (G : Nat → UInt8) (hx : a.eval x = v) (hv : Keys16 w v m G) (hbig : n + m ≤ 2 ^ 20)
    (h : ∀ g' cap' F' w', n + m ≤ cap' → (∀ i, i < (n + m) * 16 → F' i = glue (n * 16) F G i) → St w0 ((g', blk (cap' * 16) F') :: L) w' → K (a.put o.dst (.slice (some ⟨g', 0, none⟩) (n + m) cap')) w') : o.wp Tryz.prog a w K Q := by
  rcases hv with ⟨rfl, rfl⟩ | ⟨h2, c, F2, rfl, hc, hl, hr, hi, hF⟩
  · have hrun : (Builtin.append_ #[32, 32] o.type #[.slice (some ⟨g, 0, none⟩) n cap, .slice none 0 0]).run Tryz.prog w = .ok (.slice (some ⟨g, 0, none⟩) (n + 0) cap) w := by
      have hu : Tryz.prog.underlying 32 = some (.slice 22) := by kernel_rfl
      obtain ⟨i, hi1, _⟩ := info_key
      simp [Builtin.append_, run_underlying hu, Builtin.lenOf, Sem.run_bind, hn, sizeOf, typeInfo, hi1, Builtin.firstCells, storeCells]
    unfold Oper.wp execOp
    simp only [ho, resolve, invoke, builtin, Sem.run_bind, Sem.run_pure, Result.andThen_ok, List.map_toArray, List.map_cons, List.map_nil, hs, hx, hrun]
    refine h g cap F w hn (fun i hi => ?_) hC
    unfold glue; rw [if_pos (by omega)]
  · obtain ⟨i, hi1, hz, hsz, hb⟩ := info_key
    obtain ⟨g', cap', F', w', hrun, e1, e2, e3⟩ := run_append_row (P := Tryz.prog) w 32 o.type 22 i _ 16 (by kernel_rfl) hi1 hz hsz hb rfl (by omega) g n cap F hC hn h2 0 m c F2 hi (by rw [hr, blk_size]; have := Nat.mul_le_mul_right 16 hc; omega)
      (by rw [hr]; exact cut_blk0 _ _ _ (Nat.mul_le_mul_right 16 hc)) (by omega)
    unfold Oper.wp execOp
    simp only [ho, resolve, invoke, builtin, Sem.run_bind, Sem.run_pure, Result.andThen_ok, List.map_toArray, List.map_cons, List.map_nil, hs, hx, hrun]
    refine h g' cap' F' w' e1 (fun i hi => ?_) e3
    rw [e2 i hi]
    unfold glue
    split
    · rfl
    · exact hF _ (by omega)
theorem step_append_keys {ops : Array Oper} {o : Oper} {a : Act} {K : Act → World → Prop} {Q : Exit → Act → World → Prop} {E : Prop} {w0 w : World} {L : List (Nat × Array Value)} (hgd : o.guard = none) (s x : Operand) (ho : o.op = .call { callee := .builtin .append, args := #[s, x], argTypes := #[32, 32] })
    (g n cap : Nat) (F : Nat → UInt8) (hs : a.eval s = .slice (some ⟨g, 0, none⟩) n cap) (hC : St w0 ((g, blk (cap * 16) F) :: L) w) (hn : n ≤ cap)
    (v : Value) (m : Nat) (G : Nat → UInt8) (hx : a.eval x = v) (hv : Keys16 w v m G) (hbig : n + m ≤ 2 ^ 20)
    (h : ∀ g' cap' F' w', n + m ≤ cap' → (∀ i, i < (n + m) * 16 → F' i = glue (n * 16) F G i) → St w0 ((g', blk (cap' * 16) F') :: L) w' → K (a.put o.dst (.slice (some ⟨g', 0, none⟩) (n + m) cap')) w') :
    if Region.wanted o (yielded ops a.tmps) = true then Oper.wp Tryz.prog o a w K Q else E := by
  have hw : Region.wanted o (yielded ops a.tmps) = true := by simp [Region.wanted, hgd]
  rw [if_pos hw]
  exact wp_append_keys s x ho g n cap F hs hC hn v m G hx hv hbig h
theorem Keys16.of {w0 w : World} {L : List (Nat × Array Value)} {g n c : Nat} {F f : Nat → UInt8} (hC : St w0 L w) (hm : (g, blk (c * 16) F) ∈ L) (hn : n ≤ c) (hF : ∀ i, i < n * 16 → F i = f i) : Keys16 w (.slice (some ⟨g, 0, none⟩) n c) n f := by
  obtain ⟨⟨h1, h2⟩, h3, h4, h5⟩ := hC.get hm
  exact .inr ⟨g, c, F, rfl, hn, h2, h3, h5, hF⟩
theorem build_key (g : Nat → UInt8) : Array.foldl (fun (cs : Array Value) (x : Value × Nat) => cs.setIfInBounds x.snd x.fst) #[.int .u8 (B 0), .int .u8 (B 0), .int .u8 (B 0), .int .u8 (B 0), .int .u8 (B 0), .int .u8 (B 0), .int .u8 (B 0), .int .u8 (B 0), .int .u8 (B 0), .int .u8 (B 0), .int .u8 (B 0), .int .u8 (B 0), .int .u8 (B 0), .int .u8 (B 0), .int .u8 (B 0), .int .u8 (B 0)] (blk 16 g).zipIdx 0 16 = blk 16 g := by
  have e : #[.int .u8 (B 0), .int .u8 (B 0), .int .u8 (B 0), .int .u8 (B 0), .int .u8 (B 0), .int .u8 (B 0), .int .u8 (B 0), .int .u8 (B 0), .int .u8 (B 0), .int .u8 (B 0), .int .u8 (B 0), .int .u8 (B 0), .int .u8 (B 0), .int .u8 (B 0), .int .u8 (B 0), .int .u8 (B 0)] = blk 16 (fun _ => 0) := by kernel_rfl
  rw [e, build_blk0 16 16 (fun _ => 0) g (Nat.le_refl _)]
  refine blk_congr fun i hi => ?_
  unfold cpy
  rw [if_pos (by omega)]
  congr 1; omega
attribute [local go_sem] build_key
/-- a list of n keys, in a block of the call's own, and that there is no error -/
def Keyed (w0 : World) (L : List (Nat × Array Value)) (n : Nat) (f : Nat → UInt8) (e : Ending) (w : World) : Prop := ∃ g c F, e = .returned (.tuple #[.slice (some ⟨g, 0, none⟩) n c, .int .i64 0]) ∧ n ≤ c ∧ (∀ i, i < n * 16 → F i = f i) ∧ St w0 ((g, blk (c * 16) F) :: L) w
theorem Keyed.mk {w0 w : World} {L : List (Nat × Array Value)} {n : Nat} {f : Nat → UInt8} {e : Ending} (g c : Nat) (F : Nat → UInt8) (he : e = .returned (.tuple #[.slice (some ⟨g, 0, none⟩) n c, .int .i64 0])) (hn : n ≤ c) (hF : ∀ i, i < n * 16 → F i = f i) (hC : St w0 ((g, blk (c * 16) F) :: L) w) : Keyed w0 L n f e w := ⟨g, c, F, he, hn, hF, hC⟩
theorem addB_glue {n : Nat} {f k F F2 : Nat → UInt8} {Z : Nat → UInt8} (h1 : ∀ i, i < (0 + n) * 16 → F i = glue (0 * 16) Z f i) (h2 : ∀ i, i < (n + 1) * 16 → F2 i = glue (n * 16) F k i) : ∀ i, i < (n + 1) * 16 → F2 i = addB f n k i := by
  intro i hi
  rw [h2 i hi]
  unfold glue addB cpy
  by_cases h : i < n * 16
  · rw [if_pos h, if_neg (by omega), h1 i (by omega)]
    unfold glue; rw [if_neg (by omega)]
    rfl
  · rw [if_neg h, if_pos (by omega), Nat.zero_add]
set_option maxRecDepth 100000 in
set_option maxHeartbeats 1000000 in
theorem refRotate_yes (v : Value) (n : Nat) (f m : Nat → UInt8) (hn : n ≤ 5) (w0 w : World) (L : List (Nat × Array Value)) (hv : Keys16 w v n f) (hC : St w0 L w) :
    Calls Tryz.prog 41 #[v, .agg (blk 16 m)] w (Keyed w0 L (n + 1) (addB f n (deriveB m (n + 1)))) := by
  have hz := zero16
  have HV := Lib.hid hv
  have HC := Lib.hid hC
  have n5 : (n : Int) ≤ 5 := by omega
  obtain ⟨a, c, rfl⟩ : ∃ a c, v = .slice a n c := by
    rcases hv with ⟨rfl, rfl⟩ | ⟨g, c, F, rfl, _⟩
    · exact ⟨_, _, rfl⟩
    · exact ⟨_, _, rfl⟩
  clear hC hv
  go_enter Tryz.func41, Tryz.ntmps41
  go_wp2_with fail
  refine (refDerive_yes m (n + 1) (by omega) (by omega) _).mono ?_; rintro e w1 ⟨rfl, hw⟩
  have HC := Lib.hid ((HC.out.skip _).call hw)
  have HV := Lib.hid ((HV.out.call ((Below.refl _ _).alloc (Nat.le_refl _) _)).call hw)
  clear hw
  go_wp2_with fail
  have HV := Lib.hid (HV.out.call ((Below.refl _ _).alloc (Nat.le_refl _) (.cells (blk 16 (deriveB m (n + 1))) 22)))
  have HC := Lib.hid (HC.out.push (blk 16 (deriveB m (n + 1))) 22)
  generalize w1.alloc (.cells (blk 16 (deriveB m (n + 1))) 22) = w2 at HC HV ⊢
  generalize w1.heap.size = g6 at HC ⊢
  have r1 := (HC.out.get (List.mem_cons_self ..)).2.1
  have i1 := (HC.out.get (List.mem_cons_self ..)).2.2.2
  have l1 := (HC.out.get (List.mem_cons_self ..)).1.2
  have m1 : (g6 = w2.heap.size) = False := by simp; omega
  have HE1 : St w0 ((w2.heap.size, blk (0 * 16) fun _ => 0) :: (g6, blk 16 (deriveB m (n + 1))) :: L) (w2.alloc (.cells #[] 22)).drew := (HC.out.push (blk (0 * 16) fun _ => 0) 22).drew
  have HE2 : St w0 ((w2.heap.size, blk (0 * 16) fun _ => 0) :: (w2.heap.size + 1, blk 16 (deriveB m (n + 1))) :: (g6, blk 16 (deriveB m (n + 1))) :: L) ((w2.alloc (.cells #[] 22)).alloc (.cells (blk 16 (deriveB m (n + 1))) 22)).drew := ((HC.out.push (blk (0 * 16) fun _ => 0) 22).pushA (blk 16 (deriveB m (n + 1))) 22 (g := w2.heap.size + 1) (by simp)).swap.drew
  have HE3 : St w0 ((w2.heap.size + 1, blk (0 * 16) fun _ => 0) :: (w2.heap.size, blk 16 (deriveB m (n + 1))) :: (g6, blk 16 (deriveB m (n + 1))) :: L) ((w2.alloc (.cells (blk 16 (deriveB m (n + 1))) 22)).alloc (.cells #[] 22)).drew := ((HC.out.push (blk 16 (deriveB m (n + 1))) 22).pushA (blk (0 * 16) fun _ => 0) 22 (g := w2.heap.size + 1) (by simp)).drew
  have HK1 : Keys16 (w2.alloc (.cells #[] 22)).drew (.slice a n c) n f := HV.out.call ((Below.refl _ _).alloc (Nat.le_refl _) _).drew
  have HK2 : Keys16 ((w2.alloc (.cells #[] 22)).alloc (.cells (blk 16 (deriveB m (n + 1))) 22)).drew (.slice a n c) n f := HV.out.call (((Below.refl _ _).alloc (Nat.le_refl _) _).alloc (by simp) _).drew
  have HK3 : Keys16 ((w2.alloc (.cells (blk 16 (deriveB m (n + 1))) 22)).alloc (.cells #[] 22)).drew (.slice a n c) n f := HV.out.call (((Below.refl _ _).alloc (Nat.le_refl _) _).alloc (by simp) _).drew
  go_region_law (first
    | (refine step_append_keys (w0 := w0) (L := (g6, (blk 16 (deriveB m (n + 1)))) :: L) ?_ (.tmp 19) (.tmp 20) ?_ (w2.heap.size) 0 0 (fun _ => 0) ?_ ?_ (Nat.le_refl _) (.slice a n c) n f ?_ ?_ ?_ ?_; rfl; rfl; rfl; (with_reducible exact HE1); rfl; (with_reducible exact HK1); omega; intro g' cap' F' w' e1 e2 e3; have r2 := (e3.get (show (g6, (blk 16 (deriveB m (n + 1)))) ∈ _ by simp)).2.1; have i2 := (e3.get (show (g6, (blk 16 (deriveB m (n + 1)))) ∈ _ by simp)).2.2.2; have l2 := (e3.get (show (g6, (blk 16 (deriveB m (n + 1)))) ∈ _ by simp)).1.2; have m2 : (g6 = w'.heap.size) = False := (by simp; omega))
    | (refine step_append_keys (w0 := w0) (L := (w2.heap.size + 1, (blk 16 (deriveB m (n + 1)))) :: (g6, (blk 16 (deriveB m (n + 1)))) :: L) ?_ (.tmp 19) (.tmp 20) ?_ (w2.heap.size) 0 0 (fun _ => 0) ?_ ?_ (Nat.le_refl _) (.slice a n c) n f ?_ ?_ ?_ ?_; rfl; rfl; rfl; (with_reducible exact HE2); rfl; (with_reducible exact HK2); omega; intro g' cap' F' w' e1 e2 e3; have r2 := (e3.get (show (g6, (blk 16 (deriveB m (n + 1)))) ∈ _ by simp)).2.1; have i2 := (e3.get (show (g6, (blk 16 (deriveB m (n + 1)))) ∈ _ by simp)).2.2.2; have l2 := (e3.get (show (g6, (blk 16 (deriveB m (n + 1)))) ∈ _ by simp)).1.2; have m2 : (g6 = w'.heap.size) = False := (by simp; omega))
    | (refine step_append_keys (w0 := w0) (L := (w2.heap.size, (blk 16 (deriveB m (n + 1)))) :: (g6, (blk 16 (deriveB m (n + 1)))) :: L) ?_ (.tmp 19) (.tmp 20) ?_ (w2.heap.size + 1) 0 0 (fun _ => 0) ?_ ?_ (Nat.le_refl _) (.slice a n c) n f ?_ ?_ ?_ ?_; rfl; rfl; rfl; (with_reducible exact HE3); rfl; (with_reducible exact HK3); omega; intro g' cap' F' w' e1 e2 e3; have r2 := (e3.get (show (g6, (blk 16 (deriveB m (n + 1)))) ∈ _ by simp)).2.1; have i2 := (e3.get (show (g6, (blk 16 (deriveB m (n + 1)))) ∈ _ by simp)).2.2.2; have l2 := (e3.get (show (g6, (blk 16 (deriveB m (n + 1)))) ∈ _ by simp)).1.2; have m2 : (g6 = w'.heap.size) = False := (by simp; omega))
    | (refine step_append_keys (w0 := w0) (L := (w'.heap.size, (blk 16 (deriveB m (n + 1)))) :: (g6, (blk 16 (deriveB m (n + 1)))) :: L) ?_ (.tmp 21) (.tmp 23) ?_ g' n cap' F' ?_ ?_ ?_ (.slice (some ⟨w'.heap.size, 0, none⟩) 1 1) 1 (deriveB m (n + 1)) ?_ ?_ ?_ ?_; rfl; rfl; rfl; (with_reducible exact (e3.push (blk 16 (deriveB m (n + 1))) 22).swap); omega; rfl; (exact Keys16.of (c := 1) (F := deriveB m (n + 1)) (e3.push (blk 16 (deriveB m (n + 1))) 22).swap (.tail _ (.head _)) (Nat.le_refl _) (fun _ _ => rfl)); omega; intro g2' cap2' F2' w2' t1 t2 t3)
    | (refine step_append_keys (w0 := w0) (L := (w2.heap.size + 1, (blk 16 (deriveB m (n + 1)))) :: (g6, (blk 16 (deriveB m (n + 1)))) :: L) ?_ (.tmp 21) (.tmp 23) ?_ g' n cap' F' ?_ ?_ ?_ (.slice (some ⟨w2.heap.size + 1, 0, none⟩) 1 1) 1 (deriveB m (n + 1)) ?_ ?_ ?_ ?_; rfl; rfl; rfl; (with_reducible exact e3); omega; rfl; (exact Keys16.of (c := 1) (F := deriveB m (n + 1)) e3 (.tail _ (.head _)) (Nat.le_refl _) (fun _ _ => rfl)); omega; intro g2' cap2' F2' w2' t1 t2 t3)
    | (refine step_append_keys (w0 := w0) (L := (w2.heap.size, (blk 16 (deriveB m (n + 1)))) :: (g6, (blk 16 (deriveB m (n + 1)))) :: L) ?_ (.tmp 21) (.tmp 23) ?_ g' n cap' F' ?_ ?_ ?_ (.slice (some ⟨w2.heap.size, 0, none⟩) 1 1) 1 (deriveB m (n + 1)) ?_ ?_ ?_ ?_; rfl; rfl; rfl; (with_reducible exact e3); omega; rfl; (exact Keys16.of (c := 1) (F := deriveB m (n + 1)) e3 (.tail _ (.head _)) (Nat.le_refl _) (fun _ _ => rfl)); omega; intro g2' cap2' F2' w2' t1 t2 t3))
  all_goals
    have T1 := Lib.hid t1
    have T2 := Lib.hid (addB_glue e2 t2)
    have T3 := Lib.hid t3.over.over
    clear t1 t2 t3 e1 e2 e3
    go_wp2_with fail
    go_ret2
    exact Keyed.mk _ _ _ rfl T1.out T2.out T3.out
theorem refRotate_no (v : Value) (f m : Nat → UInt8) (w : World) (hv : Keys16 w v 6 f) :
    Calls Tryz.prog 41 #[v, .agg (blk 16 m)] w fun e w' => e = .returned (.tuple #[v, .int .i64 19]) ∧ Below w.heap.size w w' := by
  have hz := zero16
  obtain ⟨a, c, rfl⟩ : ∃ a c, v = .slice a 6 c := by
    rcases hv with ⟨rfl, h⟩ | ⟨g, c, F, rfl, _⟩
    · cases h
    · exact ⟨_, _, rfl⟩
  clear hv
  have HC := Lib.hid ((St.nil w).skip (.cells (blk 16 m) 22))
  go_enter Tryz.func41, Tryz.ntmps41
  go_wp2_with fail
  refine (refDerive_no m 7 (by omega) _).mono ?_; rintro e w1 ⟨rfl, hw⟩
  have HC := Lib.hid (HC.out.call hw)
  clear hw
  go_wp2_with fail
  go_ret2
  exact ⟨rfl, (HC.out.skip _).below⟩
end Go.Proofs.YtgaecjhghpkcoaaGreat
end

section
namespace Go.Proofs.YtgaecjhghpkcoaaGreat
open Go.RowKit
attribute [local go_sem] B_xor B_or B_and
attribute [local go_sem] blk_set blk_size blk_get blk_getE upd_same oneCells_blk paste_blk cut_blk szOf
attribute [local go_sem high] paste_all cut_head
attribute [local go_sem] rowAt_alloc rowAt_drew rowAt_drewN isRow_alloc isRow_drew isRow_drewN freeRow_alloc freeRow_end freeRow_drew freeRow_drewN
attribute [local go_sem] setRow_alloc setRow_drew setRow_drewN setCell_drewN alloc_drewN rowAt_put isRow_setRow freeRow_put
attribute [local go_sem ↓] loadS_in storeS_in indexS_in copyS_in
attribute [local go_sem] loadS_row loadS_one storeS_row storeS_one indexS_blk copyS_rows run_equalIn_blk same_refl arrayAt_row
attribute [local go_sem] cell_row frozen_row st_setCell st_blk_ne stepAt stepUpon
attribute [local go_sem high] run_eql_blk run_neq_blk
attribute [local go_sem ↓] convBS_in
attribute [local go_sem] convBS_row convBS_nil allBytes_blk bytesOf_blk

theorem Keys16.form {w : World} {v : Value} {n : Nat} {f : Nat → UInt8} (h : Keys16 w v n f) : ∃ a c, v = .slice a n c := by
  rcases h with ⟨rfl, rfl⟩ | ⟨g, c, F, rfl, _⟩
  · exact ⟨_, _, rfl⟩
  · exact ⟨_, _, rfl⟩
theorem Keys16.open {w : World} {a : Option Addr} {n c : Nat} {f : Nat → UInt8} (h : Keys16 w (.slice a n c) n f) (hn : 0 < n) : ∃ g F, a = some ⟨g, 0, none⟩ ∧ n ≤ c ∧ g < w.heap.size ∧ rowAt w g = blk (c * 16) F ∧ isRow w g = true ∧ ∀ i, i < n * 16 → F i = f i := by
  rcases h with ⟨_, h⟩ | ⟨g, c', F, h, h1, h2, h3, h4, h5⟩
  · omega
  · injection h with h6 _ h7
    subst h7
    exact ⟨g, F, h6, h1, h2, h3, h4, h5⟩
theorem blk_one (x : UInt8) : #[Value.int .u8 (B x)] = blk 1 fun _ => x := rfl
theorem ringB_snoc {m : Nat} {f F F2 : Nat → UInt8} {n : Nat} {x : UInt8} (h : ∀ i, i < 1 + m → F i = ringB n f i) (h2 : ∀ i, i < 1 + m + 1 → F2 i = glue (1 + m) F (fun _ => x) i) (hx : x = f m) : ∀ i, i < 1 + (m + 1) → F2 i = ringB n f i := by
  intro i hi
  rw [h2 i (by omega)]
  unfold glue
  split
  · rename_i h3; exact h i h3
  · rename_i h3
    rw [hx]
    unfold ringB glue
    rw [if_neg (by omega)]
    rw [show i - 1 = m by omega]
set_option maxRecDepth 100000 in
set_option maxHeartbeats 2000000 in
theorem refText_any (v : Value) (n : Nat) (f : Nat → UInt8) (h : n ≤ 6) (w : World) (hv : Keys16 w v n f) : Calls Tryz.prog 58 #[v] w fun e w' => e = .returned (.string (strOf (1 + n * 16) (ringB n f))) ∧ Below w.heap.size w w' := by
  have n6 : (n : Int) ≤ 6 := by omega
  have v0 := byte_of n
  have HV := Lib.hid hv
  obtain ⟨a, c, rfl⟩ := hv.form
  clear hv
  have HC := Lib.hid ((St.nil w).push (blk 1 fun _ => UInt8.ofNat n) 5)
  go_enter Tryz.func58, Tryz.ntmps58
  go_wp2_with fail
  rw [blk_one]
  go_loopw [3, 4, 5] (fun b i _ wr => ∃ j : Nat, j ≤ n ∧ i = .int .i64 (j : Int) ∧ ∃ g' c' F', b = .slice (some ⟨g', 0, none⟩) (1 + j * 16) c' ∧ Hid (1 + j * 16 ≤ c') ∧ Hid (∀ i, i < 1 + j * 16 → F' i = ringB n f i) ∧ Hid (St w [(g', blk c' F')] wr)) (fun _ i _ _ => n - (intOf i).toNat)
  case atStart => exact ⟨0, by omega, rfl, _, _, _, rfl, Lib.hid (by omega), Lib.hid (fun i hi => by unfold ringB glue; rw [if_pos (by omega)]), HC⟩
  case round =>
    clear HC
    obtain ⟨j, hj, rfl, g', c', F', rfl, HM, HF, HJ⟩ := hrel
    by_cases hlt : j < n
    · have d1 : (j : Int) < (n : Int) := by omega
      obtain ⟨g0, F0, rfl, q1, q2, q3, q4, q5⟩ := HV.out.open (by omega)
      have Q := Lib.hid (And.intro q1 (And.intro q2 (And.intro q3 (And.intro q4 q5))))
      clear q1 q2 q3 q4 q5
      go_wp2_with fail
      obtain ⟨wo, rfl⟩ : ∃ wo : World, wo = wr := ⟨_, rfl⟩
      go_loopw [3, 5] (fun b i wr => ∃ k : Nat, k ≤ 16 ∧ i = .int .i64 (k : Int) ∧ ∃ g' c' F', b = .slice (some ⟨g', 0, none⟩) (1 + (j * 16 + k)) c' ∧ Hid (1 + (j * 16 + k) ≤ c') ∧ Hid (∀ i, i < 1 + (j * 16 + k) → F' i = ringB n f i) ∧ Hid (St w [(g', blk c' F')] wr)) (fun _ i _ => 16 - (intOf i).toNat)
      case atStart => exact ⟨0, by omega, rfl, g', c', F', rfl, HM, HF, HJ⟩
      case round =>
        clear HJ HM HF
        obtain ⟨k, hk, rfl, g2, c2, F2, rfl, HM, HF, HJ⟩ := hrel
        by_cases hlk : k < 16
        · have d2 : (k : Int) < 16 := by omega
          obtain ⟨q1, q2, q3, q4, q5⟩ := Q.out
          have r0 := (below_rowAt HJ.out.below q2).trans q3
          have i0 := (below_isRow HJ.out.below q2).trans q4
          have hjk : j * 16 + k < c * 16 := by omega
          have x1 := q5 (j * 16 + k) (by omega)
          clear q1 q2 q3 q4 q5
          have X1 := Lib.hid x1
          clear x1
          go_wp2_with (at_builtin; refine stop_list ?_)
          rw [blk_one]
          have HC := Lib.hid (HJ.out.push (blk 1 fun _ => F0 (j * 16 + k)) 5).swap
          refine wpList_append_bytes (w0 := w) rfl (.tmp 20) (.tmp 27) rfl g2 (1 + (j * 16 + k)) c2 F2 rfl HC.out HM.out _ 0 1 1 (fun _ => F0 (j * 16 + k)) rfl (by simp [isRow_alloc]) (by simp [rowAt_alloc, blk_size]) (by simp [rowAt_alloc]; exact cut_head 1 _ 1 (Nat.le_refl _)) (by omega) ?_
          clear HC r0 i0
          intro g3 c3 F3 w3 hc3 hF3 hw3
          have HC := Lib.hid hw3.over
          have HF3 := Lib.hid (ringB_snoc HF.out hF3 X1.out)
          have HC3 := Lib.hid hc3
          clear hF3 hw3 hc3
          go_wp2_with fail
          go_roundw
          case rel => exact ⟨k + 1, by omega, by go_num, g3, c3, F3, by go_num, Lib.hid (by have := HC3.out; omega), Lib.hid (fun i hi => HF3.out i (by omega)), HC⟩
          case measure => simp [intOf]; omega
        · obtain rfl : k = 16 := by omega
          go_wp2_with fail
          go_roundw
          case rel => exact ⟨j + 1, by omega, by go_num, g2, c2, F2, by go_num, Lib.hid (by have := HM.out; omega), Lib.hid (fun i hi => HF.out i (by omega)), HJ⟩
          case measure => simp [intOf]; omega
    · obtain rfl : j = n := by omega
      have hcs := HM.out
      have hC := HJ.out
      (have HC := Lib.hid hC
       have sos := hC.below.os
       obtain ⟨r1, f1, i1, b1, l1⟩ := St.facts1 hC
       clear hC)
      go_wp2_with fail
      go_ret
      exact ⟨congrArg (fun x => Ending.returned (.string x)) (strOf_congr HF.out), HC.out.below⟩
end Go.Proofs.YtgaecjhghpkcoaaGreat
end

section
namespace Go.Proofs.YtgaecjhghpkcoaaGreat
open Go.RowKit
attribute [local go_sem] B_xor B_or B_and
attribute [local go_sem] blk_set blk_size blk_get blk_getE upd_same oneCells_blk paste_blk cut_blk szOf
attribute [local go_sem high] paste_all cut_head
attribute [local go_sem] rowAt_alloc rowAt_drew rowAt_drewN isRow_alloc isRow_drew isRow_drewN freeRow_alloc freeRow_end freeRow_drew freeRow_drewN
attribute [local go_sem] setRow_alloc setRow_drew setRow_drewN setCell_drewN alloc_drewN rowAt_put isRow_setRow freeRow_put
attribute [local go_sem ↓] loadS_in storeS_in indexS_in copyS_in
attribute [local go_sem] loadS_row loadS_one storeS_row storeS_one indexS_blk copyS_rows run_equalIn_blk same_refl arrayAt_row
attribute [local go_sem] cell_row frozen_row st_setCell st_blk_ne stepAt stepUpon
attribute [local go_sem high] run_eql_blk run_neq_blk
attribute [local go_sem ↓] convBS_in
attribute [local go_sem] convBS_row convBS_nil allBytes_blk bytesOf_blk
attribute [local go_sem] indexS_text indexS_text0 build_key

set_option maxRecDepth 100000 in
set_option maxHeartbeats 2000000 in
theorem refParse_empty (s : ByteArray) (h : s.size = 0) (w : World) : Calls Tryz.prog 63 #[.string s] w fun e w' => e = .returned (.tuple #[.slice none 0 0, .int .i64 3]) ∧ Below w.heap.size w w' := by
  have e : s = ByteArray.empty := by
    cases s with
    | mk d => have : d.size = 0 := h; simp at this; rw [this]; rfl
  subst e
  go_enter Tryz.func63, Tryz.ntmps63
  go_wp2_with fail
  go_ret2
  exact ⟨rfl, Below.refl _ _⟩
theorem text_full (s : ByteArray) (h : 0 < s.size) : s.toList.isEmpty = false := by
  cases hs : s.toList with
  | nil =>
    have e := (text_eq s ⟨#[]⟩).1 (by rw [hs]; simp [ByteArray.toList, ByteArray.toList.loop, ByteArray.size])
    subst e
    cases h
  | cons => rfl
set_option maxRecDepth 100000 in
set_option maxHeartbeats 2000000 in
theorem refParse_form (s : ByteArray) (N : Nat) (h : 0 < s.size) (hN : (ofText s 0).toNat = N) (h1 : N < 1 ∨ 6 < N) (w : World) : Calls Tryz.prog 63 #[.string s] w fun e w' => e = .returned (.tuple #[.slice none 0 0, .int .i64 4]) ∧ Below w.heap.size w w' := by
  have hl := text_full s h
  have hN8 : N < 256 := by have := (ofText s 0).toNat_lt; omega
  have n8 : (N : Int) < 256 := by omega
  have hB : B (ofText s 0) = (N : Int) := by unfold B; rw [hN]
  have HB := Lib.hid hB
  clear hN hB
  by_cases h2 : N < 1
  · have d1 : decide ((N : Int) < 1) = true := decide_eq_true (by omega)
    have d2 : (N : Int) < 1 := by omega
    have hB := HB.out
    clear h1
    go_enter Tryz.func63, Tryz.ntmps63
    go_wp2_with fail
    go_ret2
    exact ⟨rfl, Below.refl _ _⟩
  · have d1 : decide ((N : Int) < 1) = false := decide_eq_false (by omega)
    have d2 : ¬ (N : Int) < 1 := by omega
    have d3 : decide (6 < (N : Int)) = true := decide_eq_true (by omega)
    have hB := HB.out
    clear h1
    go_enter Tryz.func63, Tryz.ntmps63
    go_wp2_with fail
    go_ret2
    exact ⟨rfl, Below.refl _ _⟩
set_option maxRecDepth 100000 in
set_option maxHeartbeats 2000000 in
theorem refParse_size (s : ByteArray) (N d : Nat) (h : 0 < s.size) (hN : (ofText s 0).toNat = N) (h1 : 1 ≤ N) (h6 : N ≤ 6) (hd : (s.size < 1 + N * 16 ∧ d = 3) ∨ (1 + N * 16 < s.size ∧ d = 4)) (w : World) : Calls Tryz.prog 63 #[.string s] w fun e w' => e = .returned (.tuple #[.slice none 0 0, .int .i64 (d : Int)]) ∧ Below w.heap.size w w' := by
  have hl := text_full s h
  have n6 : (N : Int) ≤ 6 := by omega
  have hB : B (ofText s 0) = (N : Int) := by unfold B; rw [hN]
  have d1 : decide ((N : Int) < 1) = false := decide_eq_false (by omega)
  have d2 : decide (6 < (N : Int)) = false := decide_eq_false (by omega)
  clear hN
  rcases hd with ⟨hd, rfl⟩ | ⟨hd, rfl⟩
  · have d3 : decide ((s.size : Int) < 1 + 16 * (N : Int)) = true := decide_eq_true (by omega)
    go_enter Tryz.func63, Tryz.ntmps63
    go_wp2_with fail
    go_ret2
    exact ⟨rfl, Below.refl _ _⟩
  · have d3 : decide ((s.size : Int) < 1 + 16 * (N : Int)) = false := decide_eq_false (by omega)
    have d4 : decide (1 + 16 * (N : Int) < (s.size : Int)) = true := decide_eq_true (by omega)
    go_enter Tryz.func63, Tryz.ntmps63
    go_wp2_with fail
    go_ret2
    exact ⟨rfl, Below.refl _ _⟩
/-- a list of keys that is laid, nil at first -/
def Out16 (w0 : World) (L : List (Nat × Array Value)) (b : Value) (n : Nat) (f : Nat → UInt8) (w : World) : Prop := (b = .slice none 0 0 ∧ n = 0 ∧ St w0 L w) ∨ ∃ g c F, b = .slice (some ⟨g, 0, none⟩) n c ∧ n ≤ c ∧ (∀ i, i < n * 16 → F i = f i) ∧ St w0 ((g, blk (c * 16) F) :: L) w
section
variable {w0 w w' : World} {L : List (Nat × Array Value)} {b : Value} {n : Nat} {f : Nat → UInt8}
theorem Out16.inner (h : Out16 w0 L b n f w) : St w0 L w := by
  rcases h with ⟨_, _, h⟩ | ⟨_, _, _, _, _, _, h⟩
  · exact h
  · exact h.tail
theorem Out16.call (h : Out16 w0 L b n f w) (hb : Below w.heap.size w w') : Out16 w0 L b n f w' := by
  rcases h with ⟨h1, h2, h⟩ | ⟨g, c, F, h1, h2, h3, h⟩
  · exact .inl ⟨h1, h2, h.call hb⟩
  · exact .inr ⟨g, c, F, h1, h2, h3, h.call hb⟩
theorem Out16.push (h : Out16 w0 L b n f w) (cs : Array Value) (t : TypeId) : Out16 w0 ((w.heap.size, cs) :: L) b n f (w.alloc (.cells cs t)) := by
  rcases h with ⟨h1, h2, h⟩ | ⟨g, c, F, h1, h2, h3, h⟩
  · exact .inl ⟨h1, h2, h.push cs t⟩
  · exact .inr ⟨g, c, F, h1, h2, h3, (h.push cs t).swap⟩
theorem Out16.drop {x : Nat × Array Value} (h : Out16 w0 (x :: L) b n f w) : Out16 w0 L b n f w := by
  rcases h with ⟨h1, h2, h⟩ | ⟨g, c, F, h1, h2, h3, h⟩
  · exact .inl ⟨h1, h2, h.tail⟩
  · exact .inr ⟨g, c, F, h1, h2, h3, h.over⟩
theorem Out16.set {q : Nat} {cs : Array Value} (h : Out16 w0 ((q, cs) :: L) b n f w) (cs' : Array Value) (hs : cs'.size = cs.size) : Out16 w0 ((q, cs') :: L) b n f (w.setRow q cs') := by
  rcases h with ⟨h1, h2, h⟩ | ⟨g, c, F, h1, h2, h3, h⟩
  · exact .inl ⟨h1, h2, h.set_head cs' hs⟩
  · exact .inr ⟨g, c, F, h1, h2, h3, (h.swap.set_head cs' hs).swap⟩
theorem Out16.congr {g : Nat → UInt8} (h : Out16 w0 L b n f w) (hg : ∀ i, i < n * 16 → f i = g i) : Out16 w0 L b n g w := by
  rcases h with h | ⟨g', c, F, h1, h2, h3, h⟩
  · exact .inl h
  · exact .inr ⟨g', c, F, h1, h2, fun i hi => (h3 i hi).trans (hg i hi), h⟩
end
/-- a key behind keys -/
theorem wpList_append_out {ops : Array Oper} {rest : List Oper} {op : Oper} {a : Act} {Q : Exit → Act → World → Prop} {w0 w : World} {L : List (Nat × Array Value)} (hgd : op.guard = none) (s x : Operand) (ho : op.op = .call { callee := .builtin .append, args := #[s, x], argTypes := #[32, 32] })
    (b : Value) (n : Nat) (f : Nat → UInt8) (hs : a.eval s = b) (hO : Out16 w0 L b n f w) (v : Value) (G : Nat → UInt8) (hx : a.eval x = v) (hv : Keys16 w v 1 G) (hbig : n + 1 ≤ 2 ^ 20)
    (k : ∀ b' w', Out16 w0 L b' (n + 1) (glue (n * 16) f G) w' → wpList Tryz.prog ops Q rest (a.put op.dst b') w') : wpList Tryz.prog ops Q (op :: rest) a w := by
  rcases hO with ⟨rfl, rfl, hC⟩ | ⟨g, c, F, rfl, h2, h3, hC⟩
  · rcases hv with ⟨_, h⟩ | ⟨h2, c, F2, rfl, hc, hl, hr, hi, hF⟩
    · cases h
    · obtain ⟨i, hi1, hz, hsz, hb⟩ := info_key
      have hcc := Nat.mul_le_mul_right 16 hc
      refine wpList_append_none (L := L) (w0 := w0) hgd s x _ ho 22 i _ 16 (by kernel_rfl) hi1 hz hsz hb rfl (by omega) hs hC h2 0 1 c F2 (by omega) hx hi (by rw [hr, blk_size]; omega) (by rw [hr]; exact cut_blk0 _ _ _ hcc) (by omega) ?_
      intro g' cap' F' w' e1 e2 e3
      refine k _ _ (.inr ⟨g', cap', F', by rw [Nat.zero_add], by omega, fun i hi => ?_, e3⟩)
      rw [e2 i (by omega)]
      unfold glue
      rw [if_neg (by omega), Nat.zero_mul, Nat.sub_zero]
      exact hF _ (by omega)
  · refine wpList_plain hgd fun _ hK => ?_
    refine wp_append_keys s x ho g n c F hs hC h2 v 1 G hx hv (by omega) ?_
    intro g' cap' F' w' e1 e2 e3
    refine hK _ _ (k _ _ (.inr ⟨g', cap', F', rfl, e1, fun i hi => ?_, e3⟩))
    rw [e2 i hi]
    unfold glue
    split
    · exact h3 _ (by assumption)
    · rfl
theorem key_of_text (s R : ByteArray) (N j k : Nat) (hd : s.size = 1 + N * 16) (hR : s.extract 1 s.size = R) (hj : j < N) (hk : k < 16) : ofText s (1 + 16 * j + k) = ofText R (j * 16 + k) := by
  have hsz : s.data.size = s.size := rfl
  subst hR
  unfold ofText
  rw [ByteArray.data_extract, Array.getD_eq_getD_getElem?, Array.getD_eq_getD_getElem?, Array.getElem?_extract, if_pos (by omega)]
  congr 2; omega
set_option maxRecDepth 100000 in
set_option maxHeartbeats 2000000 in
theorem refParse_ok (s R : ByteArray) (N : Nat) (h : 0 < s.size) (hN : (ofText s 0).toNat = N) (h1 : 1 ≤ N) (h6 : N ≤ 6) (hd : s.size = 1 + N * 16) (hR : s.extract 1 s.size = R) (w0 w : World) (L : List (Nat × Array Value)) (hC : St w0 L w) :
    Calls Tryz.prog 63 #[.string s] w (Keyed w0 L N (parseB R (N * 16))) := by
  have hl := text_full s h
  have n6 : (N : Int) ≤ 6 := by omega
  have hz := zero16
  have hB : B (ofText s 0) = (N : Int) := by unfold B; rw [hN]
  have d1 : decide ((N : Int) < 1) = false := decide_eq_false (by omega)
  have d2 : decide (6 < (N : Int)) = false := decide_eq_false (by omega)
  have d3 : decide ((s.size : Int) < 1 + 16 * (N : Int)) = false := decide_eq_false (by omega)
  have d4 : decide (1 + 16 * (N : Int) < (s.size : Int)) = false := decide_eq_false (by omega)
  have HD := Lib.hid hd
  have HR := Lib.hid hR
  have HC := Lib.hid hC
  clear hN hd hR hC
  go_enter Tryz.func63, Tryz.ntmps63
  go_wp2_with fail
  go_loopw [5, 6, 7, 8] (fun b i _ _ wr => ∃ j : Nat, j ≤ N ∧ i = .int .i64 (j : Int) ∧ Hid (Out16 w0 L b j (ofText R) wr)) (fun _ i _ _ _ => N - (intOf i).toNat)
  case atStart => exact ⟨0, by omega, rfl, Lib.hid (.inl ⟨rfl, rfl, HC.out⟩)⟩
  case round =>
    clear HC
    rename_i bo
    obtain ⟨j, hj, rfl, HO⟩ := hrel
    by_cases hlt : j < N
    · have d5 : (j : Int) < (N : Int) := by omega
      go_wp2_with fail
      obtain ⟨X, hX⟩ : ∃ X : Nat → UInt8, X = fun k => ofText R (j * 16 + k) := ⟨_, rfl⟩
      have HX := Lib.hid hX
      clear hX
      have HO := Lib.hid (HO.out.push (blk 16 (upTo (fun _ => 0) X 0)) 22)
      rw [upTo_zero] at HO
      generalize wr.heap.size = q at HO ⊢
      generalize wr.alloc (Obj.cells (blk 16 fun _ => 0) 22) = wp at HO ⊢
      obtain ⟨wo, hwo⟩ : ∃ wo : World, wo = wp := ⟨_, rfl⟩
      clear hwo
      go_loopw [8] (fun i wr => ∃ k : Nat, k ≤ 16 ∧ i = .int .i64 (k : Int) ∧ Hid (Out16 w0 ((q, blk 16 (upTo (fun _ => 0) X k)) :: L) u5 j (ofText R) wr)) (fun i _ => 16 - (intOf i).toNat)
      case atStart => exact ⟨0, by omega, rfl, by rw [upTo_zero]; exact HO⟩
      case round =>
        clear HO
        obtain ⟨k, hk, rfl, HO⟩ := hrel
        by_cases hlk : k < 16
        · have d6 : (k : Int) < 16 := by omega
          have hidx : ∀ w : World, (indexS 9 (.string s) (.int .i64 (1 + 16 * (j : Int) + (k : Int)))).run Tryz.prog w = .ok (.int .u8 (B (X k))) w := fun w => by
            have h1 := indexS_text (P := Tryz.prog) (w := w) 9 s (1 + 16 * j + k) (by kernel_rfl) (by have := HD.out; omega)
            rw [key_of_text s R N j k HD.out HR.out hlt hlk] at h1
            push_cast at h1
            rw [h1, HX.out]
          have hup := upTo_next 16 (fun _ => 0) X k
          have hC := HO.out.inner.pick (L' := [(q, blk 16 (upTo (fun _ => 0) X k))]) [0] (by decide) rfl
          obtain ⟨r1, f1, i1, b1, l1⟩ := St.facts1 hC
          clear hC
          go_wp2_with fail
          have HO := Lib.hid (HO.out.set (blk 16 (upTo (fun _ => 0) X (k + 1))) (by rw [blk_size, blk_size]))
          go_roundw
          case rel => exact ⟨k + 1, by omega, by go_num, HO⟩
          case measure => simp [intOf]; omega
        · obtain rfl : k = 16 := by omega
          have hC := HO.out.inner.pick (L' := [(q, blk 16 (upTo (fun _ => 0) X 16))]) [0] (by decide) rfl
          obtain ⟨r1, f1, i1, b1, l1⟩ := St.facts1 hC
          have hup : blk 16 (upTo (fun _ => 0) X 16) = blk 16 X := blk_congr fun i hi => by unfold upTo; rw [if_pos hi]
          rw [hup] at HO r1
          clear hC hup
          go_wp2_with (at_builtin; refine stop_list ?_)
          have HP := Lib.hid (HO.out.drop.push (blk 16 X) 22)
          have hk := Keys16.of (f := X) (n := 1) (c := 1) (F := X) HP.out.inner (.head _) (Nat.le_refl _) (fun _ _ => rfl)
          refine wpList_append_out (w0 := w0) rfl (.tmp 50) (.tmp 52) rfl u5 j (ofText R) rfl HP.out _ X rfl hk (by omega) ?_
          clear hk HP r1 f1 i1
          intro b' w' hO'
          have HO := Lib.hid (hO'.drop.congr (g := ofText R) fun i hi => by
            unfold glue
            split
            · rfl
            · rw [HX.out]; simp only []; congr 1; omega)
          clear hO'
          go_wp2_with fail
          go_roundw
          case rel => exact ⟨j + 1, by omega, by go_num, HO⟩
          case measure => simp [intOf]; omega
    · obtain rfl : j = N := by omega
      go_wp2_with fail
      rcases HO.out with ⟨rfl, h0, _⟩ | ⟨g, c, F, rfl, h2, h3, h4⟩
      · omega
      · go_ret2
        exact Keyed.mk g c F rfl h2 (fun i hi => by rw [h3 i hi]; unfold parseB; rw [if_pos hi]) h4
end Go.Proofs.YtgaecjhghpkcoaaGreat
end

section
namespace Go.Proofs.YtgaecjhghpkcoaaGreat
open Go.RowKit
attribute [local go_sem] B_xor B_or B_and
attribute [local go_sem] blk_set blk_size blk_get blk_getE upd_same oneCells_blk paste_blk cut_blk szOf
attribute [local go_sem high] paste_all cut_head
attribute [local go_sem] rowAt_alloc rowAt_drew rowAt_drewN isRow_alloc isRow_drew isRow_drewN freeRow_alloc freeRow_end freeRow_drew freeRow_drewN
attribute [local go_sem] setRow_alloc setRow_drew setRow_drewN setCell_drewN alloc_drewN rowAt_put isRow_setRow freeRow_put
attribute [local go_sem ↓] loadS_in storeS_in indexS_in copyS_in
attribute [local go_sem] loadS_row loadS_one storeS_row storeS_one indexS_blk copyS_rows run_equalIn_blk same_refl arrayAt_row
attribute [local go_sem] cell_row frozen_row st_setCell st_blk_ne stepAt stepUpon
attribute [local go_sem high] run_eql_blk run_neq_blk
attribute [local go_sem ↓] convBS_in
attribute [local go_sem] convBS_row convBS_nil allBytes_blk bytesOf_blk
attribute [local go_sem] rg_size rg_get0 rg_getE0 rg_ne rg_set0 rg_one rg_cut rg_key rg_put rg_paste part_rg0 part_rg1

theorem cut_at16 (c u : Nat) (F : Nat → UInt8) (h : u * 16 + 16 ≤ c * 16) : cut (blk (c * 16) F) (u * 16) (u * 16 + 16) = blk 16 fun j => F (u * 16 + j) := by
  rw [cut_blk _ _ _ _ h, Nat.add_sub_cancel_left]
set_option maxRecDepth 100000 in
set_option maxHeartbeats 4000000 in
theorem like_any (v : Value) (n : Nat) (f : Nat → UInt8) (h : n ≤ 6) (w : World) (hv : Keys16 w v n f) : Calls Tryz.prog 34 #[.agg (rg n f), v] w fun e w' => e = .returned (.bool true) ∧ Below w.heap.size w w' := by
  have hz := zero16
  have n6 : (n : Int) ≤ 6 := by omega
  have n0 : ((n : Int) != (n : Int)) = false := by simp
  have HV := Lib.hid hv
  obtain ⟨a, c, rfl⟩ := hv.form
  clear hv
  have HC := Lib.hid ((St.nil w).pushA (rg n f) 44 rfl)
  go_enter Tryz.func34, Tryz.ntmps34
  go_wp2_with fail
  refine (term_any n f _).mono ?_; rintro e w1 ⟨rfl, hw⟩
  have HC := Lib.hid (HC.out.call hw)
  clear hw
  go_wp2_with fail
  go_loopw [5] (fun i wr => ∃ t : Int, -1 ≤ t ∧ t ≤ (n : Int) + 2 ∧ i = .int .i64 t ∧ Hid (St w [(w.heap.size, rg n f)] wr)) (fun i _ => ((n : Int) + 2 - intOf i).toNat)
  case atStart => exact ⟨-1, by omega, by omega, rfl, HC⟩
  case round =>
    clear HC
    obtain ⟨t, ht1, ht2, rfl, HJ⟩ := hrel
    by_cases hlt : t ≤ (n : Int) + 1
    · by_cases hin : 1 ≤ t ∧ t ≤ (n : Int)
      · obtain ⟨T, u, rfl, hTu⟩ : ∃ T u : Nat, t = (T : Int) ∧ T = u + 1 := ⟨t.toNat, t.toNat - 1, by omega, by omega⟩
        have HT := Lib.hid hTu
        have t1 : (1 : Int) ≤ (T : Int) := by omega
        have t2 : (T : Int) ≤ (n : Int) := by omega
        have v1 : (T : Int) - 1 = (u : Int) := by omega
        have v2 : IntKind.i64.wrap ((T : Int) - 1) = (u : Int) := by rw [IntWalk.i64_in _ (by omega)]; exact v1
        have v3 : u < n := by omega
        have v4 : IntKind.i64.wrap (u : Int) = (u : Int) := IntWalk.i64_in _ (by omega)
        have v5 : (u : Int) < (n : Int) := by omega
        obtain ⟨g0, F0, rfl, q1, q2, q3, q4, q5⟩ := HV.out.open (by omega)
        have Q := Lib.hid (And.intro q2 (And.intro q3 q4))
        have b1 : u * 16 + 16 ≤ c * 16 := by omega
        have hcut := cut_at16 c u F0 b1
        have hs : same 16 (keyB f u) (fun j => F0 (u * 16 + j)) = true := (same_iff _ _ _).2 fun i hi => by
          unfold keyB
          exact (q5 _ (by omega)).symm
        clear q1 q2 q3 q4 q5 hTu hin
        have hC := HJ.out
        (have HC := Lib.hid hC
         have sos := hC.below.os
         obtain ⟨r1, f1, i1, b1, l1⟩ := St.facts1 hC
         clear hC)
        go_wp2_with fail
        (clear r1 f1 i1 b1 l1 sos)
        refine (key_yes n f T u HT.out (by omega) h _).mono ?_; rintro e w2 ⟨rfl, hw⟩
        have HC := Lib.hid (HJ.out.call hw)
        clear hw
        go_wp2_with fail
        have HC := Lib.hid (HC.out.push (blk 16 (keyB f u)) 41)
        generalize w2.alloc (Obj.cells (blk 16 (keyB f u)) 41) = w3 at HC ⊢
        generalize w2.heap.size = q at HC ⊢
        refine St.region HC.out (by kernel_rfl) (by decide +kernel) ?_
        (first
           | (apply head_skip rfl)
           | (apply head_step_g rfl
              focus
                intro w0 hC
                (exact neq_quiet 41 rfl rfl rfl Tryz.eqGuardType41 Tryz.underlying41 (by simp [go_sem]) (by simp [go_sem]) (by with_reducible assumption)))
           | (apply head_step_g rfl
              focus
                intro w0 hC
                have hC' := Lib.hid hC
                have r0 := (below_rowAt hC.below Q.out.1).trans Q.out.2.1
                have i0 := (below_isRow hC.below Q.out.1).trans Q.out.2.2
                obtain ⟨⟨r1, f1, i1, b1, l1⟩, ⟨r2, f2, i2, b2, l2⟩, m12, m21⟩ := St.facts2 hC
                clear hC
                go_simp
                with_reducible rfl)
         try simp only [Act.put, List.setIfInBounds_toArray, List.set])
        (first
           | (apply head_skip rfl)
           | (apply head_step_g rfl
              focus
                intro w0 hC
                (exact neq_quiet 41 rfl rfl rfl Tryz.eqGuardType41 Tryz.underlying41 (by simp [go_sem]) (by simp [go_sem]) (by with_reducible assumption)))
           | (apply head_step_g rfl
              focus
                intro w0 hC
                have hC' := Lib.hid hC
                have r0 := (below_rowAt hC.below Q.out.1).trans Q.out.2.1
                have i0 := (below_isRow hC.below Q.out.1).trans Q.out.2.2
                obtain ⟨⟨r1, f1, i1, b1, l1⟩, ⟨r2, f2, i2, b2, l2⟩, m12, m21⟩ := St.facts2 hC
                clear hC
                go_simp
                with_reducible rfl)
         try simp only [Act.put, List.setIfInBounds_toArray, List.set])
        (first
           | (apply head_skip rfl)
           | (apply head_step_g rfl
              focus
                intro w0 hC
                (exact neq_quiet 41 rfl rfl rfl Tryz.eqGuardType41 Tryz.underlying41 (by simp [go_sem]) (by simp [go_sem]) (by with_reducible assumption)))
           | (apply head_step_g rfl
              focus
                intro w0 hC
                have hC' := Lib.hid hC
                have r0 := (below_rowAt hC.below Q.out.1).trans Q.out.2.1
                have i0 := (below_isRow hC.below Q.out.1).trans Q.out.2.2
                obtain ⟨⟨r1, f1, i1, b1, l1⟩, ⟨r2, f2, i2, b2, l2⟩, m12, m21⟩ := St.facts2 hC
                clear hC
                go_simp
                with_reducible rfl)
         try simp only [Act.put, List.setIfInBounds_toArray, List.set])
        (first
           | (apply head_skip rfl)
           | (apply head_step_g rfl
              focus
                intro w0 hC
                (exact neq_quiet 41 rfl rfl rfl Tryz.eqGuardType41 Tryz.underlying41 (by simp [go_sem]) (by simp [go_sem]) (by with_reducible assumption)))
           | (apply head_step_g rfl
              focus
                intro w0 hC
                have hC' := Lib.hid hC
                have r0 := (below_rowAt hC.below Q.out.1).trans Q.out.2.1
                have i0 := (below_isRow hC.below Q.out.1).trans Q.out.2.2
                obtain ⟨⟨r1, f1, i1, b1, l1⟩, ⟨r2, f2, i2, b2, l2⟩, m12, m21⟩ := St.facts2 hC
                clear hC
                go_simp
                with_reducible rfl)
         try simp only [Act.put, List.setIfInBounds_toArray, List.set])
        (first
           | (apply head_skip rfl)
           | (apply head_step_g rfl
              focus
                intro w0 hC
                (exact neq_quiet 41 rfl rfl rfl Tryz.eqGuardType41 Tryz.underlying41 (by simp [go_sem]) (by simp [go_sem]) (by with_reducible assumption)))
           | (apply head_step_g rfl
              focus
                intro w0 hC
                have hC' := Lib.hid hC
                have r0 := (below_rowAt hC.below Q.out.1).trans Q.out.2.1
                have i0 := (below_isRow hC.below Q.out.1).trans Q.out.2.2
                obtain ⟨⟨r1, f1, i1, b1, l1⟩, ⟨r2, f2, i2, b2, l2⟩, m12, m21⟩ := St.facts2 hC
                clear hC
                go_simp
                with_reducible rfl)
         try simp only [Act.put, List.setIfInBounds_toArray, List.set])
        (first
           | (apply head_skip rfl)
           | (apply head_step_g rfl
              focus
                intro w0 hC
                (exact neq_quiet 41 rfl rfl rfl Tryz.eqGuardType41 Tryz.underlying41 (by simp [go_sem]) (by simp [go_sem]) (by with_reducible assumption)))
           | (apply head_step_g rfl
              focus
                intro w0 hC
                have hC' := Lib.hid hC
                have r0 := (below_rowAt hC.below Q.out.1).trans Q.out.2.1
                have i0 := (below_isRow hC.below Q.out.1).trans Q.out.2.2
                obtain ⟨⟨r1, f1, i1, b1, l1⟩, ⟨r2, f2, i2, b2, l2⟩, m12, m21⟩ := St.facts2 hC
                clear hC
                go_simp
                with_reducible rfl)
         try simp only [Act.put, List.setIfInBounds_toArray, List.set])
        (first
           | (apply head_skip rfl)
           | (apply head_step_g rfl
              focus
                intro w0 hC
                (exact neq_quiet 41 rfl rfl rfl Tryz.eqGuardType41 Tryz.underlying41 (by simp [go_sem]) (by simp [go_sem]) (by with_reducible assumption)))
           | (apply head_step_g rfl
              focus
                intro w0 hC
                have hC' := Lib.hid hC
                have r0 := (below_rowAt hC.below Q.out.1).trans Q.out.2.1
                have i0 := (below_isRow hC.below Q.out.1).trans Q.out.2.2
                obtain ⟨⟨r1, f1, i1, b1, l1⟩, ⟨r2, f2, i2, b2, l2⟩, m12, m21⟩ := St.facts2 hC
                clear hC
                go_simp
                with_reducible rfl)
         try simp only [Act.put, List.setIfInBounds_toArray, List.set])
        (first
           | (apply head_skip rfl)
           | (apply head_step_g rfl
              focus
                intro w0 hC
                (exact neq_quiet 41 rfl rfl rfl Tryz.eqGuardType41 Tryz.underlying41 (by simp [go_sem]) (by simp [go_sem]) (by with_reducible assumption)))
           | (apply head_step_g rfl
              focus
                intro w0 hC
                have hC' := Lib.hid hC
                have r0 := (below_rowAt hC.below Q.out.1).trans Q.out.2.1
                have i0 := (below_isRow hC.below Q.out.1).trans Q.out.2.2
                obtain ⟨⟨r1, f1, i1, b1, l1⟩, ⟨r2, f2, i2, b2, l2⟩, m12, m21⟩ := St.facts2 hC
                clear hC
                go_simp
                with_reducible rfl)
         try simp only [Act.put, List.setIfInBounds_toArray, List.set])
        (first
           | (apply head_skip rfl)
           | (apply head_step_g rfl
              focus
                intro w0 hC
                (exact neq_quiet 41 rfl rfl rfl Tryz.eqGuardType41 Tryz.underlying41 (by simp [go_sem]) (by simp [go_sem]) (by with_reducible assumption)))
           | (apply head_step_g rfl
              focus
                intro w0 hC
                have hC' := Lib.hid hC
                have r0 := (below_rowAt hC.below Q.out.1).trans Q.out.2.1
                have i0 := (below_isRow hC.below Q.out.1).trans Q.out.2.2
                obtain ⟨⟨r1, f1, i1, b1, l1⟩, ⟨r2, f2, i2, b2, l2⟩, m12, m21⟩ := St.facts2 hC
                clear hC
                go_simp
                with_reducible rfl)
         try simp only [Act.put, List.setIfInBounds_toArray, List.set])
        (first
           | (apply head_skip rfl)
           | (apply head_step_g rfl
              focus
                intro w0 hC
                (exact neq_quiet 41 rfl rfl rfl Tryz.eqGuardType41 Tryz.underlying41 (by simp [go_sem]) (by simp [go_sem]) (by with_reducible assumption)))
           | (apply head_step_g rfl
              focus
                intro w0 hC
                have hC' := Lib.hid hC
                have r0 := (below_rowAt hC.below Q.out.1).trans Q.out.2.1
                have i0 := (below_isRow hC.below Q.out.1).trans Q.out.2.2
                obtain ⟨⟨r1, f1, i1, b1, l1⟩, ⟨r2, f2, i2, b2, l2⟩, m12, m21⟩ := St.facts2 hC
                clear hC
                go_simp
                with_reducible rfl)
         try simp only [Act.put, List.setIfInBounds_toArray, List.set])
        (first
           | (apply head_skip rfl)
           | (apply head_step_g rfl
              focus
                intro w0 hC
                (exact neq_quiet 41 rfl rfl rfl Tryz.eqGuardType41 Tryz.underlying41 (by simp [go_sem]) (by simp [go_sem]) (by with_reducible assumption)))
           | (apply head_step_g rfl
              focus
                intro w0 hC
                have hC' := Lib.hid hC
                have r0 := (below_rowAt hC.below Q.out.1).trans Q.out.2.1
                have i0 := (below_isRow hC.below Q.out.1).trans Q.out.2.2
                obtain ⟨⟨r1, f1, i1, b1, l1⟩, ⟨r2, f2, i2, b2, l2⟩, m12, m21⟩ := St.facts2 hC
                clear hC
                go_simp
                with_reducible rfl)
         try simp only [Act.put, List.setIfInBounds_toArray, List.set])
        refine wpQuiet_nil ?_
        intro w4 hC
        have HC := Lib.hid hC.tail
        clear hC
        go_wp2_with fail
        go_roundw
        case rel => exact ⟨(T : Int) + 1, by omega, by omega, by go_num, HC⟩
        case measure => simp [intOf]; omega
      · have hs : same 16 (fun _ => 0) (fun _ => 0) = true := same_refl _ _
        have HS := Lib.hid hs
        have hno : t < 1 ∨ 6 < t ∨ (n : Int) < t := by omega
        have HN := Lib.hid hno
        have hC := HJ.out
        have hd : (decide (1 ≤ t) && decide (t ≤ (n : Int))) = false := by
          rw [Bool.and_eq_false_iff, decide_eq_false_iff_not, decide_eq_false_iff_not]; omega
        clear hno
        by_cases h1 : 1 ≤ t
        · have h2 : decide (t ≤ (n : Int)) = false := decide_eq_false (by omega)
          clear hin hd
          (have HC := Lib.hid hC
           have sos := hC.below.os
           obtain ⟨r1, f1, i1, b1, l1⟩ := St.facts1 hC
           clear hC)
          go_wp2_with fail
          (clear r1 f1 i1 b1 l1 sos)
          refine (key_no n f t HN.out _).mono ?_; rintro e w2 ⟨rfl, hw⟩
          have HC := Lib.hid (HJ.out.call hw)
          clear hw
          go_wp2_with fail
          go_roundw
          case rel => exact ⟨t + 1, by omega, by omega, by go_num, Lib.hid (HC.out.skip _)⟩
          case measure => simp [intOf]; omega
        · have h2 : decide (1 ≤ t) = false := decide_eq_false (by omega)
          clear hin hd
          (have HC := Lib.hid hC
           have sos := hC.below.os
           obtain ⟨r1, f1, i1, b1, l1⟩ := St.facts1 hC
           clear hC)
          go_wp2_with fail
          (clear r1 f1 i1 b1 l1 sos)
          refine (key_no n f t HN.out _).mono ?_; rintro e w2 ⟨rfl, hw⟩
          have HC := Lib.hid (HJ.out.call hw)
          clear hw
          go_wp2_with fail
          go_roundw
          case rel => exact ⟨t + 1, by omega, by omega, by go_num, Lib.hid (HC.out.skip _)⟩
          case measure => simp [intOf]; omega
    · obtain rfl : t = (n : Int) + 2 := by omega
      have hC := HJ.out
      (have HC := Lib.hid hC
       have sos := hC.below.os
       obtain ⟨r1, f1, i1, b1, l1⟩ := St.facts1 hC
       clear hC)
      go_wp2_with fail
      (clear r1 f1 i1 b1 l1 sos)
      refine (text_any n f h _).mono ?_; rintro e w2 ⟨rfl, hw⟩
      have HC := Lib.hid (HJ.out.call hw)
      clear hw
      go_wp2_with fail
      refine (refText_any _ n f h _ (HV.out.call HC.out.below)).mono ?_; rintro e w3 ⟨rfl, hw⟩
      have HC := Lib.hid (HC.out.call hw)
      have hss := text_same (strOf (1 + n * 16) (ringB n f))
      clear hw
      go_wp2_with fail
      go_ret
      exact ⟨rfl, HC.out.below⟩
end Go.Proofs.YtgaecjhghpkcoaaGreat
end

section
namespace Go.Proofs.YtgaecjhghpkcoaaGreat
open Go.RowKit
attribute [local go_sem] B_xor B_or B_and
attribute [local go_sem] blk_set blk_size blk_get blk_getE upd_same oneCells_blk paste_blk cut_blk szOf
attribute [local go_sem high] paste_all cut_head
attribute [local go_sem] rowAt_alloc rowAt_drew rowAt_drewN isRow_alloc isRow_drew isRow_drewN freeRow_alloc freeRow_end freeRow_drew freeRow_drewN
attribute [local go_sem] setRow_alloc setRow_drew setRow_drewN setCell_drewN alloc_drewN rowAt_put isRow_setRow freeRow_put
attribute [local go_sem ↓] loadS_in storeS_in indexS_in copyS_in
attribute [local go_sem] loadS_row loadS_one storeS_row storeS_one indexS_blk copyS_rows run_equalIn_blk same_refl arrayAt_row
attribute [local go_sem] cell_row frozen_row st_setCell st_blk_ne stepAt stepUpon
attribute [local go_sem high] run_eql_blk run_neq_blk
attribute [local go_sem ↓] convBS_in
attribute [local go_sem] convBS_row convBS_nil allBytes_blk bytesOf_blk
attribute [local go_sem] rg_size rg_get0 rg_getE0 rg_ne rg_set0 rg_one rg_cut rg_key rg_put rg_paste part_rg0 part_rg1

/-- nothing stands behind the last key -/
def Neat (n : Nat) (f : Nat → UInt8) : Prop := ∀ i, n * 16 ≤ i → i < 96 → f i = 0
theorem ofText_extract (s : ByteArray) (a b i : Nat) (hi : a + i < b) (hb : b ≤ s.size) : ofText (s.extract a b) i = ofText s (a + i) := by
  have hsz : s.data.size = s.size := rfl
  unfold ofText
  rw [ByteArray.data_extract, Array.getD_eq_getD_getElem?, Array.getD_eq_getD_getElem?, Array.getElem?_extract, if_pos (by omega)]
theorem parse_back (n : Nat) (f : Nat → UInt8) (h1 : 1 ≤ n) (h6 : n ≤ 6) (hz : Neat n f) (w : World) : Calls Tryz.prog 61 #[.string (strOf (1 + n * 16) (ringB n f))] w fun e w' => e = .returned (.tuple #[.agg (rg n f), .int .i64 0]) ∧ Below w.heap.size w w' := by
  have hsz := strOf_size (1 + n * 16) (ringB n f)
  have hN : (ofText (strOf (1 + n * 16) (ringB n f)) 0).toNat = n := by
    rw [ofText_strOf _ _ _ (by omega)]
    unfold ringB glue
    rw [if_pos (by omega), UInt8.toNat_ofNat_of_lt' (by have : UInt8.size = 256 := rfl; omega)]
  have h := parse_ok (strOf (1 + n * 16) (ringB n f)) _ n (by omega) hN h1 h6 hsz rfl w
  have e : rg n (parseB ((strOf (1 + n * 16) (ringB n f)).extract 1 (strOf (1 + n * 16) (ringB n f)).size) (n * 16)) = rg n f := rg_congr fun i hi => by
    unfold parseB
    split
    · rename_i hlt
      rw [ofText_extract _ _ _ _ (by omega) (Nat.le_refl _), ofText_strOf _ _ _ (by omega)]
      unfold ringB glue
      rw [if_neg (by omega), Nat.add_sub_cancel_left]
    · rename_i hge
      exact (hz i (by omega) hi).symm
  rw [e] at h
  exact h
theorem neat_new (m : Nat → UInt8) : Neat 1 (newB m) := by
  intro i h1 h2
  unfold newB addB cpy
  rw [if_neg (by omega)]
theorem neat_add (n : Nat) (f k : Nat → UInt8) (h : Neat n f) : Neat (n + 1) (addB f n k) := by
  intro i h1 h2
  unfold addB cpy
  rw [if_neg (by omega)]
  exact h i (by omega) h2
def sevenS : ByteArray := ⟨#[7]⟩
theorem parse_seven (w : World) : Calls Tryz.prog 61 #[.string ⟨#[7]⟩] w fun e w' => e = .returned (.tuple #[.agg (rg 0 fun _ => 0), .int .i64 4]) ∧ Below w.heap.size w w' := parse_form ⟨#[7]⟩ 7 (by decide) (by decide) (by decide) (by omega) w
end Go.Proofs.YtgaecjhghpkcoaaGreat
end
