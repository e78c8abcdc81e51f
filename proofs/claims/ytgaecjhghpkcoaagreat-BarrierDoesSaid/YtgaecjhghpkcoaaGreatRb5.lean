/- The reference's barrier: Put, of the ideal kind. -/
import Derived.Test.YtgaecjhghpkcoaaGreatRb4
import Derived.Test.YtgaecjhghpkcoaaGreatVApp
namespace Go.Proofs.YtgaecjhghpkcoaaGreat
open Go.RowKit
attribute [local go_sem] B_xor B_or B_and
attribute [local go_sem] blk_set blk_size blk_get blk_getE upd_same oneCells_blk paste_blk cut_blk szOf
attribute [local go_sem high] paste_all cut_head
attribute [local go_sem] rowAt_alloc rowAt_drew rowAt_drewN isRow_alloc isRow_drew isRow_drewN freeRow_alloc freeRow_end freeRow_drew freeRow_drewN
attribute [local go_sem] setRow_alloc setRow_drew setRow_drewN setCell_drewN alloc_drewN rowAt_put isRow_setRow freeRow_put
attribute [local go_sem ↓] loadS_in storeS_in indexS_in copyS_in
attribute [local go_sem] loadS_row loadS_one storeS_row storeS_one indexS_blk copyS_rows run_equalIn_blk same_refl arrayAt_row
attribute [local go_sem] cell_row frozen_row st_setCell st_blk_ne stepAt stepUpon
attribute [local go_sem high] run_eql_blk run_neq_blk
attribute [local go_sem ↓] convBS_in
attribute [local go_sem] convBS_row convBS_nil allBytes_blk bytesOf_blk
attribute [local go_sem] size_c19 agg_c19 cn_size cn_get0 cn_get1 cn_getE0 cn_getE1 cn_set0 cn_set1 cn_ne cn_one cn_cut cn_paste
attribute [local go_sem] rb_size rb_get0 rb_get1 rb_get2 rb_get3 rb_get4 rb_getE0 rb_getE1 rb_getE2 rb_getE3 rb_getE4 rb_ne rb_one rb_cut rb_count rb_paste rb_set0 rb_set1 rb_set3 rb_set4 rb_build size_rb agg_rb


/-- the i-th cell of a row of notes -/
def nCell (l : List (ByteArray × ByteArray × ByteArray)) (i : Nat) : Value := match l[i / 3]? with
  | some x => if i % 3 = 0 then .string x.1 else if i % 3 = 1 then .string x.2.1 else .string x.2.2
  | none => undef
/-- these notes, where a list of notes lies -/
inductive NotesV (w : World) : Option Addr → Nat → Nat → List (ByteArray × ByteArray × ByteArray) → Prop
  | nil : NotesV w none 0 0 []
  | cons (h cap : Nat) (F : Nat → Value) (l : List (ByteArray × ByteArray × ByteArray)) (hl : l ≠ []) (h1 : l.length ≤ cap) (h2 : h < w.heap.size) (h3 : rowAt w h = vlk (cap * 3) F) (h4 : isRow w h = true) (h5 : ∀ i, i < l.length * 3 → F i = nCell l i) : NotesV w (some ⟨h, 0, none⟩) l.length cap l
theorem NotesV.keep {w w' : World} {a : Option Addr} {n c : Nat} {l : List (ByteArray × ByteArray × ByteArray)} {base : Nat} (h : NotesV w a n c l) (hb : Below base w w') (hbase : w.heap.size ≤ base) : NotesV w' a n c l := by
  cases h with
  | nil => exact .nil
  | cons h cap F l hl h1 h2 h3 h4 h5 => exact .cons h _ F _ hl h1 (by have := hb.size; omega) ((below_rowAt hb (by omega)).trans h3) ((below_isRow hb (by omega)).trans h4) h5
theorem NotesV.put {w : World} {M h cap : Nat} {F : Nat → Value} {l : List (ByteArray × ByteArray × ByteArray)} (hM : l.length = M) (hl : l ≠ []) (h1 : l.length ≤ cap) (h2 : h < w.heap.size) (h3 : rowAt w h = vlk (cap * 3) F) (h4 : isRow w h = true) (h5 : ∀ i, i < l.length * 3 → F i = nCell l i) : NotesV w (some ⟨h, 0, none⟩) M cap l := by
  subst hM
  exact .cons h cap F l hl h1 h2 h3 h4 h5
theorem NotesV.len {w : World} {a : Option Addr} {n c : Nat} {l : List (ByteArray × ByteArray × ByteArray)} (h : NotesV w a n c l) : n = l.length := by
  cases h <;> rfl
/-- these notes, in a block that is told -/
inductive NotesIn (L : List (Nat × Array Value)) : Option Addr → Nat → Nat → List (ByteArray × ByteArray × ByteArray) → Prop
  | nil : NotesIn L none 0 0 []
  | cons (h cap M : Nat) (F : Nat → Value) (l : List (ByteArray × ByteArray × ByteArray)) (hM : l.length = M) (hl : l ≠ []) (h1 : l.length ≤ cap) (h2 : (h, vlk (cap * 3) F) ∈ L) (h5 : ∀ i, i < l.length * 3 → F i = nCell l i) : NotesIn L (some ⟨h, 0, none⟩) M cap l
theorem NotesIn.at {w0 w : World} {L : List (Nat × Array Value)} {a : Option Addr} {n c : Nat} {l : List (ByteArray × ByteArray × ByteArray)} (h : NotesIn L a n c l) (hC : St w0 L w) : NotesV w a n c l := by
  cases h with
  | nil => exact .nil
  | cons h _ _ F _ hM hl h1 h2 h5 =>
    obtain ⟨⟨_, k2⟩, k3, _, k5⟩ := hC.rows _ h2
    exact .put hM hl h1 k2 k3 k5 h5
theorem NotesIn.mono {L L' : List (Nat × Array Value)} {a : Option Addr} {n c : Nat} {l : List (ByteArray × ByteArray × ByteArray)} (h : NotesIn L a n c l) (hL : ∀ x ∈ L, x ∈ L') : NotesIn L' a n c l := by
  cases h with
  | nil => exact .nil
  | cons h _ _ F _ hM hl h1 h2 h5 => exact .cons h _ _ F _ hM hl h1 (hL _ h2) h5
theorem St.sole {w0 w : World} {g : Nat} {cs : Array Value} (hb : Below w0.heap.size w0 w) (h1 : w0.heap.size ≤ g) (h2 : g < w.heap.size) (h3 : rowAt w g = cs) (h4 : freeRow w g = true) (h5 : isRow w g = true) : St w0 [(g, cs)] w :=
  ⟨hb, by simp, fun x hx => by rw [List.mem_singleton] at hx; subst hx; exact ⟨⟨h1, h2⟩, h3, h4, h5⟩⟩
theorem nCell_one (n p t : ByteArray) : #[Value.string n, .string p, .string t] = vlk 3 (nCell [(n, p, t)]) := by
  refine vlk_ext rfl fun i hi => ?_
  obtain rfl | rfl | rfl : i = 0 ∨ i = 1 ∨ i = 2 := by omega
  all_goals rfl
theorem nCell_app (l m : List (ByteArray × ByteArray × ByteArray)) (i : Nat) : vglue (l.length * 3) (nCell l) (nCell m) i = nCell (l ++ m) i := by
  unfold vglue nCell
  by_cases h1 : i < l.length * 3
  · rw [if_pos h1, List.getElem?_append_left (by omega)]
  · rw [if_neg h1, List.getElem?_append_right (by omega), show (i - l.length * 3) / 3 = i / 3 - l.length by omega, show (i - l.length * 3) % 3 = i % 3 by omega]
theorem nCell_oneCell (n : Nat) (l : List (ByteArray × ByteArray × ByteArray)) (h : n ≤ l.length * 3) : oneCells (vlk n (nCell l)) = true := by
  unfold oneCells
  rw [Array.all_eq_true]
  intro i hi
  have hi' : i < n := by rw [vlk_size] at hi; exact hi
  have hg := vlk_get n (nCell l) i hi'
  rw [Array.getElem?_eq_getElem hi] at hg
  rw [Option.some.inj hg]
  unfold nCell
  rw [List.getElem?_eq_getElem (show i / 3 < l.length by omega)]
  dsimp only
  split
  · rfl
  · split <;> rfl

theorem info_rbnote : ∃ i z, Tryz.prog.info? 106 = some i ∧ i.zero = some z ∧ z.cells.size = 3 ∧ i.size = 3 ∧ i.bytes ≤ 64 := by
  have h : ((Tryz.prog.info? 106).bind fun i => i.zero.map fun z => (z.cells.size, i.size, decide (i.bytes ≤ 64))) = some (3, 3, true) := by kernel_rfl
  obtain ⟨i, hi, hv⟩ := Option.bind_eq_some_iff.1 h
  obtain ⟨z, hz, hv⟩ := Option.map_eq_some_iff.1 hv
  simp only [Prod.mk.injEq, decide_eq_true_eq] at hv
  exact ⟨i, z, hi, hz, hv.1, hv.2.1, hv.2.2⟩
/-- notes behind notes of the call's own -/
theorem wpList_rbnotes {ops : Array Oper} {rest : List Oper} {op : Oper} {a : Act} {Q : Exit → Act → World → Prop} {w0 w : World} {L : List (Nat × Array Value)} (hgd : op.guard = none) (s x : Operand) (ho : op.op = .call { callee := .builtin .append, args := #[s, x], argTypes := #[36, 36] })
    (g n cap : Nat) (F : Nat → Value) (hs : a.eval s = .slice (some ⟨g, 0, none⟩) n cap) (hC : St w0 ((g, vlk (cap * 3) F) :: L) w) (hn : n ≤ cap)
    (na : Option Addr) (nn nc : Nat) (l : List (ByteArray × ByteArray × ByteArray)) (hx : a.eval x = .slice na nn nc) (hv : NotesV w na nn nc l) (hbig : n + l.length ≤ 2 ^ 30)
    (k : ∀ g' cap' F' w', n + l.length ≤ cap' → (∀ i, i < (n + l.length) * 3 → F' i = vglue (n * 3) F (nCell l) i) → St w0 ((g', vlk (cap' * 3) F') :: L) w' → wpList Tryz.prog ops Q rest (a.put op.dst (.slice (some ⟨g', 0, none⟩) (n + l.length) cap')) w') : wpList Tryz.prog ops Q (op :: rest) a w := by
  obtain ⟨i, z, hi1, hz, hzs, hsz, hb⟩ := info_rbnote
  cases hv with
  | nil =>
    have hrun : (Builtin.append_ #[36, 36] op.type #[.slice (some ⟨g, 0, none⟩) n cap, .slice none 0 0]).run Tryz.prog w = .ok (.slice (some ⟨g, 0, none⟩) n cap) w := by
      have hu : Tryz.prog.underlying 36 = some (.slice 106) := by kernel_rfl
      simp [Builtin.append_, run_underlying hu, Builtin.lenOf, Sem.run_bind, hn, sizeOf, typeInfo, hi1, Builtin.firstCells, storeCells]
    refine wpList_plain hgd fun K hK => ?_
    unfold Oper.wp execOp
    simp only [ho, resolve, invoke, builtin, Sem.run_bind, Sem.run_pure, Result.andThen_ok, List.map_toArray, List.map_cons, List.map_nil, hs, hx, hrun]
    exact hK _ _ (k g cap F w hn (fun i hi => by unfold vglue; rw [if_pos (by simpa using hi)]) hC)
  | cons h _ G _ hl h1 h2 h3 h4 h5 =>
    have hle := Nat.mul_le_mul_right 3 h1
    have hG : cut (rowAt w h) 0 (0 + l.length * 3) = vlk (l.length * 3) (nCell l) := by
      rw [h3, vcut _ _ _ _ (by omega)]
      refine vlk_ext (vlk_size _ _) fun i hi => ?_
      rw [vlk_get _ _ _ hi, Nat.zero_add, h5 i hi]
    exact wpList_vappend (P := Tryz.prog) (w0 := w0) (L := L) hgd s x 36 ho 106 i z 3 (by kernel_rfl) hi1 hz hsz (Nat.le_trans hb (by decide)) hzs g n cap F hs hC hn h 0 l.length _ (nCell l) hx h4 (by rw [h3, vlk_size]; omega) hG (nCell_oneCell _ _ (Nat.le_refl _)) hbig k
set_option maxRecDepth 100000 in
set_option maxHeartbeats 4000000 in
theorem refPut_idealC (ka : Option Addr) (kn kc e c : Nat) (na : Option Addr) (nn nc : Nat) (l : List (ByteArray × ByteArray × ByteArray)) (p t : ByteArray) (h6 : kn ≤ 6) (hE : takeN kn e c = 0) (ht : t.size < 2 ^ 39) (w : World) (hN : NotesV w na nn nc l) (hl : l.length < 2 ^ 29) : Calls Tryz.prog 24 #[.agg (rbC ⟨true, ka, kn, kc, e, c, na, nn, nc⟩), .string p, .string t] w fun x w' => ∃ na' nn' nc' L', x = .returned (.tuple #[.string (headS kn (nonceS e c) ++ nilS (t.size + 16)), .agg (rbC ⟨true, ka, kn, kc, e, c + 1, na', nn', nc'⟩), .int .i64 0]) ∧ NotesIn L' na' nn' nc' (l ++ [(nonceS e c, p, t)]) ∧ St w L' w' := by
  have hz := rb_zero
  have hn1 : 1 ≤ kn := by
    unfold takeN at hE
    split at hE
    · cases hE
    · omega
  have HC := Lib.hid (((St.nil w).pushA (rbC ⟨true, ka, kn, kc, e, c, na, nn, nc⟩) 38 rfl).pushA (rbC rbZero) 38 (g := w.heap.size + 1) (by simp))
  have T1 := Lib.hid (refTake21 ⟨true, ka, kn, kc, e, c, na, nn, nc⟩)
  have e1 : takeNS kn e c = nonceS e c := by unfold takeNS; rw [if_pos hE]
  have e2 : Rb.took ⟨true, ka, kn, kc, e, c, na, nn, nc⟩ = ⟨true, ka, kn, kc, e, c + 1, na, nn, nc⟩ := by unfold Rb.took; rw [if_pos hE]
  dsimp only at T1
  rw [e1, e2, hE] at T1
  have T3 := Lib.hid (fun w => refHead_any kn h6 (nonceS e c) (by rw [nonceS_size]; omega) w)
  have T4 := Lib.hid (fun w => noughts_any (t.size + 16) (by omega) w)
  rw [show ((t.size + 16 : Nat) : Int) = (t.size : Int) + 16 by omega] at T4
  have t39 : (t.size : Int) ≤ 549755813888 := by omega
  have t40 : IntKind.i64.wrap ((t.size : Int) + 16) = (t.size : Int) + 16 := IntWalk.i64_in _ (by omega)
  have t39' : t.size ≤ 549755813888 := by omega
  obtain ⟨HS, hHS⟩ : ∃ HS, headS kn (nonceS e c) = HS := ⟨_, rfl⟩
  have hhs : HS.size = 16 := by rw [← hHS]; unfold headS; rw [ByteArray.size_append, strOf_size, nonceS_size]
  obtain ⟨SR, hSR⟩ : ∃ SR, nilS (t.size + 16) = SR := ⟨_, rfl⟩
  have hsr : SR.size = t.size + 16 := by rw [← hSR]; exact strOf_size _ _
  have hsz : HS.size + SR.size ≤ 9223372036854775807 := by omega
  rw [hHS] at T3 ⊢
  rw [hSR] at T4 ⊢
  clear hE e1 e2 ht h6 hHS hSR hhs hsr
  have HN := Lib.hid hN
  clear hN
  go_enter Tryz.func24, Tryz.ntmps24
  (obtain ⟨⟨r1, f1, i1, b1, l1⟩, ⟨r2, f2, i2, b2, l2⟩, m12, m21⟩ := St.facts2 (HC.out.pick [0, 1] (by decide) rfl))
  go_wp2_with fail
  (clear r1 f1 i1 b1 l1 r2 f2 i2 b2 l2 m12 m21)
  refine (T1.out _).mono ?_; rintro e w1 ⟨rfl, hw⟩
  have HC := Lib.hid (HC.out.call hw)
  clear hw
  (obtain ⟨⟨r1, f1, i1, b1, l1⟩, ⟨r2, f2, i2, b2, l2⟩, m12, m21⟩ := St.facts2 (HC.out.pick [0, 1] (by decide) rfl))
  go_upto_region 6 with fail
  (clear r1 f1 i1 b1 l1 r2 f2 i2 b2 l2 m12 m21)
  have HC := Lib.hid (HC.out.push (rbC ⟨true, ka, kn, kc, e, c + 1, na, nn, nc⟩) 38)
  generalize w1.alloc (Obj.cells (rbC ⟨true, ka, kn, kc, e, c + 1, na, nn, nc⟩) 38) = w2 at HC ⊢
  generalize w1.heap.size = q at HC ⊢
  (obtain ⟨⟨r1, f1, i1, b1, l1⟩, ⟨r2, f2, i2, b2, l2⟩, ⟨r3, f3, i3, b3, l3⟩, m12, m21, m13, m31, m23, m32⟩ := St.facts3 (HC.out.pick [0, 1, 2] (by decide) rfl))
  go_wp2_with (at_builtin; refine stop_list ?_)
  have HC := Lib.hid (HC.out.push (vlk (0 * 3) (nCell [])) 106)
  have HV := Lib.hid (HN.out.keep HC.out.below (Nat.le_refl _))
  refine wpList_rbnotes (w0 := w) rfl (.tmp 30) (.tmp 32) rfl w2.heap.size 0 0 (nCell []) rfl HC.out (Nat.le_refl _) na nn nc l rfl HV.out (by omega) ?_
  rw [Nat.zero_add]
  clear HC
  intro g1 c1 F1 w3 x1 x2 x3
  have X1 := Lib.hid x1
  have X2 := Lib.hid (show ∀ i, i < l.length * 3 → F1 i = nCell l i from fun i hi => by rw [x2 i hi]; unfold vglue; rw [if_neg (by omega)]; rfl)
  have HC := Lib.hid x3
  clear x1 x2 x3
  go_wp2_with (at_builtin; refine stop_list ?_)
  rw [nCell_one]
  have HC := Lib.hid (HC.out.push (vlk 3 (nCell [(nonceS e c, p, t)])) 106)
  have HV := Lib.hid (NotesV.cons (w := w3.alloc (.cells (vlk 3 (nCell [(nonceS e c, p, t)])) 106)) w3.heap.size 1 (nCell [(nonceS e c, p, t)]) [(nonceS e c, p, t)] (by simp) (Nat.le_refl _) (by simp) (by simp [rowAt_alloc]) (by simp [isRow_alloc]) (fun _ _ => rfl))
  refine wpList_rbnotes (w0 := w) rfl (.tmp 33) (.tmp 38) rfl g1 l.length c1 F1 rfl HC.out.swap X1.out (some ⟨w3.heap.size, 0, none⟩) 1 1 [(nonceS e c, p, t)] rfl HV.out (by simp; omega) ?_
  clear HC HV
  intro g2 c2 F2 w4 x1 x2 x3
  have Y1 := Lib.hid x1
  have Y2 := Lib.hid (show ∀ i, i < (l ++ [(nonceS e c, p, t)]).length * 3 → F2 i = nCell (l ++ [(nonceS e c, p, t)]) i from fun i hi => by
    rw [List.length_append] at hi
    rw [x2 i hi, ← nCell_app]
    unfold vglue
    split
    · exact X2.out i (by omega)
    · rfl)
  have HC := Lib.hid (x3.over)
  have hg2 := x3.get (List.mem_cons_self ..)
  obtain ⟨M, hM⟩ : ∃ M, l.length + [(nonceS e c, p, t)].length = M := ⟨_, rfl⟩
  have HM := Lib.hid hM
  rw [hM]
  clear x1 x2 x3 X1 X2 hM hg2
  (obtain ⟨⟨r1, f1, i1, b1, l1⟩, ⟨r2, f2, i2, b2, l2⟩, ⟨r3, f3, i3, b3, l3⟩, ⟨r4, f4, i4, b4, l4⟩, m12, m21, m13, m31, m14, m41, m23, m32, m24, m42, m34, m43⟩ := St.facts4 (HC.out.pick [0, 1, 2, 3] (by decide) rfl))
  go_upto_region 7 with fail
  (clear r1 f1 i1 b1 l1 r2 f2 i2 b2 l2 r3 f3 i3 b3 l3 r4 f4 i4 b4 l4 m12 m21 m13 m31 m14 m41 m23 m32 m24 m42 m34 m43)
  have HC := Lib.hid (HC.out.swap.set_head (rbC ⟨true, ka, kn, kc, e, c + 1, some ⟨g2, 0, none⟩, M, c2⟩) (by rw [rb_size, rb_size]))
  generalize w4.setRow q (rbC ⟨true, ka, kn, kc, e, c + 1, some ⟨g2, 0, none⟩, M, c2⟩) = w5 at HC ⊢
  (obtain ⟨⟨r1, f1, i1, b1, l1⟩, ⟨r2, f2, i2, b2, l2⟩, ⟨r3, f3, i3, b3, l3⟩, ⟨r4, f4, i4, b4, l4⟩, m12, m21, m13, m31, m14, m41, m23, m32, m24, m42, m34, m43⟩ := St.facts4 (HC.out.pick [0, 1, 2, 3] (by decide) rfl))
  have HD := HC
  clear HC
  go_region_with (first
    | (go_at_call 59; refine (T3.out _).mono ?_; rintro e w6 ⟨rfl, hw⟩; have hD : St w [(q, rbC ⟨true, ka, kn, kc, e, c + 1, some ⟨g2, 0, none⟩, M, c2⟩), (g2, vlk (c2 * 3) F2), (w.heap.size + 1, rbC rbZero), (w.heap.size, rbC ⟨true, ka, kn, kc, e, c, na, nn, nc⟩)] w6 := St.call (by repeat (first | exact HC.out | exact HD.out | apply St.drew | apply St.drewN)) hw; have HC := Lib.hid hD; clear hw; obtain ⟨⟨r1, f1, i1, b1, l1⟩, ⟨r2, f2, i2, b2, l2⟩, ⟨r3, f3, i3, b3, l3⟩, ⟨r4, f4, i4, b4, l4⟩, m12, m21, m13, m31, m14, m41, m23, m32, m24, m42, m34, m43⟩ := St.facts4 hD; clear hD)
    | (go_at_call 49; refine (T4.out _).mono ?_; rintro e w6 ⟨rfl, hw⟩; have hD : St w [(q, rbC ⟨true, ka, kn, kc, e, c + 1, some ⟨g2, 0, none⟩, M, c2⟩), (g2, vlk (c2 * 3) F2), (w.heap.size + 1, rbC rbZero), (w.heap.size, rbC ⟨true, ka, kn, kc, e, c, na, nn, nc⟩)] w6 := St.call (by repeat (first | exact HC.out | exact HD.out | apply St.drew | apply St.drewN)) hw; have HC := Lib.hid hD; clear hw; obtain ⟨⟨r1, f1, i1, b1, l1⟩, ⟨r2, f2, i2, b2, l2⟩, ⟨r3, f3, i3, b3, l3⟩, ⟨r4, f4, i4, b4, l4⟩, m12, m21, m13, m31, m14, m41, m23, m32, m24, m42, m34, m43⟩ := St.facts4 hD; clear hD))
  all_goals
    go_wp2_with fail
    refine bodyPost_ret (results_qpr rfl _ (w.heap.size + 1) rfl (rbC ⟨true, ka, kn, kc, e, c + 1, some ⟨g2, 0, none⟩, M, c2⟩) ?_ ?_ ?_ ?_ (.string (HS ++ SR)) (.int .i64 0) rfl rfl) rfl ⟨some ⟨g2, 0, none⟩, M, c2, [(g2, vlk (c2 * 3) F2)], rfl, .cons g2 c2 M F2 _ (by rw [List.length_append]; exact HM.out) (by simp) (by rw [List.length_append]; exact Y1.out) (.head _) Y2.out, St.sole ?_ (by assumption) ?_ ?_ ?_ ?_⟩
    · simp [go_sem, *]
    · simp [go_sem]
    · simp [go_sem]
    · simp [go_sem, *]
    · repeat
        first
          | (with_reducible exact HC.out.below)
          | (with_reducible refine Below.drew ?_)
          | (with_reducible exact Below.refl _ _)
          | (with_reducible refine Below.alloc ?_ (by first | exact Nat.le_refl _ | (simp; done) | omega | (simp; omega)) _)
          | (with_reducible refine below_setRow' ?_ (by omega) _)
    · simp [go_sem, *]
    · simp [go_sem, *]
    · simp [go_sem, *]
    · simp [go_sem, *]
theorem refPut_ideal (r : Rb) (l : List (ByteArray × ByteArray × ByteArray)) (p t : ByteArray) (hid : r.id = true) (h6 : r.kn ≤ 6) (hE : takeN r.kn r.e r.c = 0) (ht : t.size < 2 ^ 39) (w : World) (hN : NotesV w r.na r.nn r.nc l) (hl : l.length < 2 ^ 29) : Calls Tryz.prog 24 #[.agg (rbC r), .string p, .string t] w fun x w' => ∃ na' nn' nc' L', x = .returned (.tuple #[.string (headS r.kn (nonceS r.e r.c) ++ nilS (t.size + 16)), .agg (rbC { r with c := r.c + 1, na := na', nn := nn', nc := nc' }), .int .i64 0]) ∧ NotesIn L' na' nn' nc' (l ++ [(nonceS r.e r.c, p, t)]) ∧ St w L' w' := by
  obtain ⟨id, ka, kn, kc, e, c, na, nn, nc⟩ := r
  dsimp only at hid h6 hE hN
  subst hid
  exact refPut_idealC ka kn kc e c na nn nc l p t h6 hE ht w hN hl
end Go.Proofs.YtgaecjhghpkcoaaGreat
