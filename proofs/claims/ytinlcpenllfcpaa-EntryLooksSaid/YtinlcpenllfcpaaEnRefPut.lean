/- The reference's Row and Put. -/
import Derived.Test.YtinlcpenllfcpaaEnPut
import Derived.Test.YtinlcpenllfcpaaEnOwn
namespace Go.Proofs.Ytinlcpenllfcpaa
open Go.RowKit
attribute [local go_sem] B_xor B_or B_and
attribute [local go_sem] blk_set blk_size blk_get blk_getE upd_same oneCells_blk paste_blk cut_blk szOf
attribute [local go_sem high] paste_all cut_head
attribute [local go_sem] rowAt_alloc rowAt_drew rowAt_drewN isRow_alloc isRow_drew isRow_drewN freeRow_alloc freeRow_end freeRow_drew freeRow_drewN
attribute [local go_sem] setRow_alloc setRow_drew setRow_drewN setCell_drewN alloc_drewN rowAt_put isRow_setRow freeRow_put
attribute [local go_sem ↓] loadS_in storeS_in indexS_in copyS_in
attribute [local go_sem] loadS_row loadS_one storeS_row storeS_one indexS_blk copyS_rows run_equalIn_blk same_refl arrayAt_row
attribute [local go_sem] cell_row frozen_row st_setCell st_blk_ne stepAt stepUpon
attribute [local go_sem high] run_eql_blk run_neq_blk
attribute [local go_sem ↓] convBS_in
attribute [local go_sem] convBS_row convBS_nil allBytes_blk bytesOf_blk
attribute [local go_sem] run_make_bytes
attribute [local go_sem] ndC_size ndC_get0 ndC_get1 ndC_get2 ndC_get3 ndC_get4 ndC_getE0 ndC_getE1 ndC_getE2 ndC_getE3 ndC_getE4 ndC_ne ndC_one ndC_cut ndC_paste ndC_set0 ndC_set1 ndC_set2 ndC_set3 ndC_set4 size_nd agg_nd

theorem refNum_byt (v : Value) (m k N : Nat) (f : Nat → UInt8) (h1 : 1 ≤ k) (h8 : k ≤ 8) (hN : N < 18446744073709551616) (hb : m + k ≤ 2 ^ 30) (w0 w : World) (L : List (Nat × Array Value)) (hB : Byt w0 L v m f w) : Calls Try.prog 30 #[v, .int .i64 (k : Int), .int .u64 (N : Int)] w (Laid w0 L (m + k) (glue m f (beB N k))) := by
  rcases hB with ⟨rfl, rfl, hC⟩ | ⟨g, c, F, rfl, hm, hF, hC⟩
  · refine (refNum_nil k N h1 h8 hN w0 w L hC).mono ?_
    rintro e w' ⟨g, c, F, rfl, x1, x2, x3⟩
    refine ⟨g, c, F, by rw [Nat.zero_add], by omega, fun i hi => ?_, x3⟩
    rw [x2 i (by omega)]
    unfold glue
    rw [if_neg (by omega), Nat.sub_zero]
  · refine (refNum_own g m c k N F h1 h8 hN hm hb w0 w L hC).mono ?_
    rintro e w' ⟨g', c', F', rfl, x1, x2, x3⟩
    refine ⟨g', c', F', rfl, x1, fun i hi => ?_, x3⟩
    rw [x2 i hi]
    unfold glue
    by_cases h : i < m
    · rw [if_pos h, if_pos h, hF i h]
    · rw [if_neg h, if_neg h]
set_option maxRecDepth 100000 in
set_option maxHeartbeats 2000000 in
theorem refRow_any (v : Value) (m : Nat) (f : Nat → UInt8) (s : ByteArray) (hs : s.size ≤ 65535) (hb : m + (rowL s).length ≤ 2 ^ 30) (w0 w : World) (L : List (Nat × Array Value)) (hB : Byt w0 L v m f w) :
    Calls Try.prog 31 #[v, .string s] w (LaidE w0 L m f (rowL s)) := by
  rw [rowL_len] at hb
  have d1 : decide (65535 < (s.size : Int)) = false := decide_eq_false (by omega)
  have s6 : (s.size : Int) ≤ 65535 := by omega
  have G1 := Lib.hid (refNum_byt v m 2 s.size f (by omega) (by omega) (by omega) (by omega) w0 w L hB)
  obtain ⟨a, c, rfl⟩ := hB.form
  clear hB
  go_enter Try.func31, Try.ntmps31
  go_wp2_with fail
  refine G1.out.mono ?_; rintro e w2 ⟨g2, c2, F2, rfl, y1, y2, y3⟩
  have HC := Lib.hid y3
  have Y1 := Lib.hid y1
  have Y2 := Lib.hid y2
  clear y1 y2 y3 G1
  go_wp2_with (at_builtin; refine stop_list ?_)
  refine wpList_append_text (w0 := w0) rfl (.tmp 13) (.tmp 14) rfl g2 (m + 2) c2 F2 rfl HC.out Y1.out s rfl (by omega) ?_
  intro g3 c3 F3 w3 z1 z2 z3
  have HC := Lib.hid z3
  have Z1 := Lib.hid z1
  have Z2 := Lib.hid z2
  clear z1 z2 z3
  obtain ⟨n, hn⟩ : ∃ n, m + 2 + s.size = n := ⟨_, rfl⟩
  have HN := Lib.hid (show n = m + (rowL s).length by rw [rowL_len]; omega)
  rw [hn]
  rw [hn] at Z1
  clear hn
  go_wp2_with fail
  go_ret2
  refine ⟨g3, c3, F3, (by rw [HN.out]; rfl), by rw [← HN.out]; exact Z1.out, ?_, HC.out⟩
  rw [← HN.out]
  exact row_glue (F := f) (F1 := f) (fun _ _ => rfl) (fun _ _ => rfl) Y2.out Z2.out HN.out
def strL (l : List UInt8) : ByteArray := ⟨l.toArray⟩
theorem strL_app (a b : List UInt8) : strL a ++ strL b = strL (a ++ b) := by
  apply ByteArray.ext
  rw [ByteArray.data_append]
  simp [strL]
theorem strL_size (l : List UInt8) : (strL l).size = l.length := by simp [strL, ByteArray.size]
theorem strOf_strL {n : Nat} {F : Nat → UInt8} {l : List UInt8} (hn : n = l.length) (h : ∀ i, i < n → F i = atL l i) : strOf n F = strL l := by
  subst hn
  unfold strOf strL
  congr 2
  refine List.ext_getElem (by simp) fun i h1 h2 => ?_
  rw [List.getElem_map, List.getElem_range, h i h2]
  unfold atL
  rw [List.getD_eq_getElem?_getD, List.getElem?_eq_getElem h2]
  rfl
theorem glue_zero (f : Nat → UInt8) (l : List UInt8) (i : Nat) : glue 0 f (atL l) i = atL l i := by
  unfold glue
  rw [if_neg (by omega), Nat.sub_zero]
/-- the reference's row of nothing, as a text -/
theorem row_str {F f : Nat → UInt8} {l : List UInt8} (h : ∀ i, i < 0 + l.length → F i = glue 0 f (atL l) i) : strOf (0 + l.length) F = strL l :=
  strOf_strL (Nat.zero_add _) fun i hi => (h i hi).trans (glue_zero f l i)
theorem own_str {F f : Nat → UInt8} {x : UInt8} {l : List UInt8} (hf : f 0 = x) (h : ∀ i, i < 1 + l.length → F i = glue 1 f (atL l) i) : strOf (1 + l.length) F = strL (x :: l) :=
  strOf_strL (by rw [List.length_cons]; omega) fun i hi => by
    rw [h i hi]
    unfold glue
    by_cases h0 : i < 1
    · obtain rfl : i = 0 := by omega
      rw [if_pos h0, hf]; rfl
    · rw [if_neg h0]
      obtain ⟨j, rfl⟩ : ∃ j, i = j + 1 := ⟨i - 1, by omega⟩
      rfl
theorem St.pushEq {w0 w : World} {L : List (Nat × Array Value)} {cs cs' : Array Value} {g : Nat} (h : St w0 L w) (hg : w.heap.size = g) (he : cs = cs') (t : TypeId) : St w0 ((g, cs') :: L) (w.alloc (.cells cs t)) := by
  subst he hg; exact h.push cs t
theorem alloc_next (w : World) (o : Obj) : (w.alloc o).heap.size = w.heap.size + 1 := by show (w.heap.push o).size = _; exact Array.size_push ..
theorem convBS_blk (w : World) (g n c : Nat) (F : Nat → UInt8) (hr : rowAt w g = blk c F) (hi : isRow w g = true) (hn : n ≤ c) : (convBS 30 9 (.slice (some ⟨g, 0, none⟩) n c)).run Try.prog w = .ok (.string (strOf n F)) w := by
  simp [go_sem, hr, hi, hn]
set_option maxRecDepth 100000 in
set_option maxHeartbeats 400000 in
theorem refPutC (k n : Nat) (s : ByteArray) (ka : Option Addr) (kc : Nat) (na : Option Addr) (nc : Nat) (kids : List Nd) (names : List ByteArray) (cs : Nat → NdC) (hk : k < 256) (hn : n < 18446744073709551616) (hk5 : k ≤ 5) (hs : Small (.mk k n s kids names)) (hb : (ndPut (.mk k n s kids names)).length ≤ 2 ^ 30) (w : World)
    (h3 : ElemsAt w ka kids.length 5 fun i => ndC (cs i))
    (HN : ∀ (i : Nat) w', Below w.heap.size w w' → Calls Try.prog 28 #[.agg (ndC ⟨k, n, s, ka, kids.length, kc, na, names.length, nc⟩), .int .i64 (i : Int)] w' fun e w'' => e = .returned (.string (nameOf names i)) ∧ Below w'.heap.size w' w'')
    (IH : 3 < k → ∀ i (h : i < kids.length) w', Below w.heap.size w w' → (ndPut kids[i]).length ≤ 2 ^ 30 → Calls Try.prog 14 #[.agg (ndC (cs i))] w' fun e w'' => e = .returned (.string (strL (ndPut kids[i]))) ∧ Below w'.heap.size w' w'') :
    Calls Try.prog 14 #[.agg (ndC ⟨k, n, s, ka, kids.length, kc, na, names.length, nc⟩)] w fun e w' => e = .returned (.string (strL (ndPut (.mk k n s kids names)))) ∧ Below w.heap.size w w' := by
  have HC := Lib.hid ((St.nil w).pushA (ndC ⟨k, n, s, ka, kids.length, kc, na, names.length, nc⟩) 26 rfl)
  by_cases k0 : k = 0
  · subst k0
    rw [show strL (ndPut (.mk 0 n s kids names)) = ⟨#[0]⟩ by rw [ndPut, if_pos rfl]; rfl]
    clear IH HN h3
    go_enter Try.func14, Try.ntmps14
    (obtain ⟨r1, f1, i1, b1, l1⟩ := St.facts1 (HC.out.pick [0] (by decide) rfl))
    go_wp2_with fail
    (go_ret
     exact ⟨rfl, HC.out.below⟩)
  · by_cases k1 : k = 1
    · subst k1
      clear IH HN h3
      by_cases n1 : n = 1
      · subst n1
        rw [show strL (ndPut (.mk 1 1 s kids names)) = ⟨#[2]⟩ by rw [ndPut, if_neg (by omega), if_pos rfl, if_pos rfl]; rfl]
        go_enter Try.func14, Try.ntmps14
        (obtain ⟨r1, f1, i1, b1, l1⟩ := St.facts1 (HC.out.pick [0] (by decide) rfl))
        go_wp2_with fail
        (go_ret
         exact ⟨rfl, HC.out.below⟩)
      · rw [show strL (ndPut (.mk 1 n s kids names)) = ⟨#[1]⟩ by rw [ndPut, if_neg (by omega), if_pos rfl, if_neg n1]; rfl]
        have d1 : ((n : Int) == 1) = false := beq_eq_false_iff_ne.2 (by omega)
        go_enter Try.func14, Try.ntmps14
        (obtain ⟨r1, f1, i1, b1, l1⟩ := St.facts1 (HC.out.pick [0] (by decide) rfl))
        go_wp2_with fail
        (go_ret
         exact ⟨rfl, HC.out.below⟩)
    · by_cases k2 : k = 2
      · subst k2
        clear IH HN h3
        rw [show ndPut (.mk 2 n s kids names) = 3 :: beL 8 n by rw [ndPut, if_neg (by omega), if_neg (by omega), if_pos rfl]]
        go_enter Try.func14, Try.ntmps14
        (obtain ⟨r1, f1, i1, b1, l1⟩ := St.facts1 (HC.out.pick [0] (by decide) rfl))
        go_wp2_with fail
        (clear r1 f1 i1 b1 l1)
        have HP := Lib.hid (HC.out.pushEq (alloc_next _ _) (show #[Value.int .u8 3] = blk 1 fun _ => 3 from rfl) 5)
        refine (refNum_own _ 1 1 8 n (fun _ => 3) (by omega) (by omega) hn (by omega) (by omega) w _ _ HP.out).mono ?_; rintro e w2 ⟨g2, c2, F2, rfl, y1, y2, y3⟩
        have HC := Lib.hid y3
        have hc9 : 9 ≤ c2 := y1
        have hs1 : strOf 9 F2 = strL (3 :: beL 8 n) := strOf_strL (by rw [List.length_cons, beL_len]) fun i hi => by
          rw [y2 i hi]
          unfold glue
          by_cases h0 : i < 1
          · obtain rfl : i = 0 := by omega
            rw [if_pos h0]; rfl
          · rw [if_neg h0, ← beL_at 8 n (i - 1) (by omega)]
            obtain ⟨j, rfl⟩ : ∃ j, i = j + 1 := ⟨i - 1, by omega⟩
            rfl
        clear y1 y2 y3 HP
        (obtain ⟨r1, f1, i1, b1, l1⟩ := St.facts1 (HC.out.pick [0] (by decide) rfl))
        go_wp2_with fail
        (go_ret
         exact ⟨rfl, HC.out.below⟩)
      · by_cases k3 : k = 3
        · subst k3
          clear IH HN h3
          have hs2 : s.size ≤ 65535 := by cases hs; omega
          rw [show ndPut (.mk 3 n s kids names) = 4 :: rowL s by rw [ndPut, if_neg (by omega), if_neg (by omega), if_neg (by omega), if_pos rfl]]
          have HS := Lib.hid hs2
          clear hs hs2
          go_enter Try.func14, Try.ntmps14
          (obtain ⟨r1, f1, i1, b1, l1⟩ := St.facts1 (HC.out.pick [0] (by decide) rfl))
          go_wp2_with fail
          (clear r1 f1 i1 b1 l1)
          have HP := Lib.hid (HC.out.pushEq (alloc_next _ _) (show #[Value.int .u8 4] = blk 1 fun _ => 4 from rfl) 5)
          refine (refRow_any _ 1 (fun _ => 4) s HS.out (by rw [rowL_len]; have := HS.out; omega) w _ _ (Byt.own HP.out (by omega) (fun _ _ => rfl))).mono ?_; rintro e w2 ⟨g2, c2, F2, rfl, y1, y2, y3⟩
          have HC := Lib.hid y3
          have hs1 : strOf (1 + (rowL s).length) F2 = strL (4 :: rowL s) := own_str (f := fun _ => 4) rfl y2
          obtain ⟨N, hN⟩ : ∃ N, 1 + (rowL s).length = N := ⟨_, rfl⟩
          rw [hN] at y1 hs1 ⊢
          clear y2 y3 HP hN
          (obtain ⟨r1, f1, i1, b1, l1⟩ := St.facts1 (HC.out.pick [0] (by decide) rfl))
          go_wp2_with fail
          (go_ret
           exact ⟨rfl, HC.out.below⟩)
        · have hkl : kids.length ≤ 70 := by cases hs; assumption
          have hs4 : ∀ j, (nameOf names j).size ≤ 65535 := fun j => by
            cases hs with
            | mk _ _ _ _ _ s1 s2 s3 s4 s5 =>
              unfold nameOf
              rw [List.getD_eq_getElem?_getD]
              cases hg : names[j]? with
              | none => exact Nat.zero_le _
              | some t => have := s4 t (List.mem_of_getElem? hg); exact Nat.le_trans this (by decide)
          by_cases k4 : k = 4
          · subst k4
            have e : ndPut (.mk 4 n s kids names) = preL 5 kids.length false names kids kids.length := by rw [ndPut, if_neg (by omega), if_neg (by omega), if_neg (by omega), if_neg (by omega), if_pos rfl]; unfold preL; rw [List.take_length]; rfl
            have hle : ∀ j, (preL 5 kids.length false names kids j).length ≤ (preL 5 kids.length false names kids kids.length).length := fun j => by
              unfold preL; rw [List.take_length]; simp only [List.length_cons]; have := putL_le false names kids j; omega
            have hnx : ∀ j (h : j < kids.length), preL 5 kids.length false names kids (j + 1) = preL 5 kids.length false names kids j ++ ndPut kids[j] := fun j h => by
              unfold preL; rw [putL_take false names kids j h]; rfl
            have h0 : preL 5 kids.length false names kids 0 = [UInt8.ofNat 5, UInt8.ofNat kids.length] := rfl
            rw [e] at hb ⊢
            clear e
            obtain ⟨P, hP⟩ : ∃ P : Nat → List UInt8, preL 5 kids.length false names kids = P := ⟨_, rfl⟩
            rw [hP] at hb hle hnx h0 ⊢
            have HPb := Lib.hid hb
            have HPl := Lib.hid hle
            have HPn := Lib.hid hnx
            have HI := Lib.hid (IH (by omega))
            obtain ⟨kl, hk⟩ : ∃ kl, kids.length = kl := ⟨_, rfl⟩
            have HK := Lib.hid hk
            rw [hk] at h3 hkl h0 HC ⊢
            have HP0 := Lib.hid (two_row 5 kl (by omega) (by omega))
            have HP1 := Lib.hid h0
            have H3 := Lib.hid h3
            have kl70 : (kl : Int) ≤ 70 := by omega
            clear hle hnx h0 hP hb h3 IH hs hk HN hs4
            go_enter Try.func14, Try.ntmps14
            (obtain ⟨r1, f1, i1, b1, l1⟩ := St.facts1 (HC.out.pick [0] (by decide) rfl))
            go_wp2_with fail
            (clear r1 f1 i1 b1 l1)
            have HQ := Lib.hid (HC.out.pushEq (alloc_next _ _) (show #[Value.int .u8 5, .int .u8 (kl : Int)] = blk 2 (atL [UInt8.ofNat 5, UInt8.ofNat kl]) from HP0.out) 5)
            have HC := Lib.hid (HC.out.skip (.cells #[Value.int .u8 5, .int .u8 (kl : Int)] 5))
            have hs1 : strOf 2 (atL [UInt8.ofNat 5, UInt8.ofNat kl]) = strL (P 0) := by
              rw [HP1.out]; exact strOf_strL rfl fun _ _ => rfl
            obtain ⟨r1, f1, i1, b1, l1⟩ := St.facts1 (HQ.out.pick [0] (by decide) rfl)
            rw [convBS_blk _ _ _ _ _ r1 i1 (Nat.le_refl _), hs1]
            clear r1 f1 i1 b1 l1 HQ hs1
            go_wp2_with fail
            go_loopw [5, 6] (fun t i wr => ∃ j : Nat, j ≤ kl ∧ i = .int .i64 (j : Int) ∧ t = .string (strL (P j)) ∧ Hid (St w [(w.heap.size, ndC ⟨4, n, s, ka, kl, kc, na, names.length, nc⟩)] wr)) (fun _ i _ => kl - (intOf i).toNat)
            case atStart => exact ⟨0, by omega, rfl, rfl, HC⟩
            case round =>
              clear HC
              obtain ⟨j, hj, rfl, rfl, HC⟩ := hrel
              by_cases hlt : j < kl
              · have d6 : (j : Int) < (kl : Int) := by omega
                have hjn : j < kids.length := by rw [HK.out]; exact hlt
                have hpl : (ndPut kids[j]).length ≤ 2 ^ 30 := by have h1 := HPl.out (j + 1); rw [HPn.out j hjn, List.length_append] at h1; have := HPb.out; omega
                have hq1 : (strL (P j)).size + (strL (ndPut kids[j])).size ≤ 9223372036854775807 := by
                  rw [strL_size, strL_size]; have := HPl.out j; have := HPb.out; omega
                have hq2 : strL (P j) ++ strL (ndPut kids[j]) = strL (P (j + 1)) := by rw [strL_app, HPn.out j hjn]
                obtain ⟨ad, rfl⟩ := H3.out.some j hlt
                have HLD := Lib.hid (fun w' (hb : Below w.heap.size w w') => ((H3.out.call hb (Nat.le_refl _)).at j hlt).node)
                have HX := Lib.hid (fun w' (hb : Below w.heap.size w w') => HI.out j hjn w' hb hpl)
                generalize strL (ndPut kids[j]) = X at hq1 hq2 HX
                (obtain ⟨r1, f1, i1, b1, l1⟩ := St.facts1 (HC.out.pick [0] (by decide) rfl))
                have hld := HLD.out _ HC.out.below
                go_wp2_with fail
                (clear r1 f1 i1 b1 l1)
                clear hld
                refine (HX.out _ HC.out.below).mono ?_; rintro e w2 ⟨rfl, hw⟩
                have HC := Lib.hid (HC.out.call hw)
                clear hw
                go_wp2_with fail
                go_roundw
                case rel => exact ⟨j + 1, by omega, by go_num, rfl, HC⟩
                case measure => simp [intOf]; omega
              · obtain rfl : j = kl := by omega
                (obtain ⟨r1, f1, i1, b1, l1⟩ := St.facts1 (HC.out.pick [0] (by decide) rfl))
                go_wp2_with fail
                (go_ret
                 exact ⟨rfl, HC.out.below⟩)
          · have k5 : k = 5 := by omega
            subst k5
            have e : ndPut (.mk 5 n s kids names) = preL 6 kids.length true names kids kids.length := by rw [ndPut, if_neg (by omega), if_neg (by omega), if_neg (by omega), if_neg (by omega), if_neg (by omega), if_pos rfl]; unfold preL; rw [List.take_length]; rfl
            have hle : ∀ j, (preL 6 kids.length true names kids j).length ≤ (preL 6 kids.length true names kids kids.length).length := fun j => by
              unfold preL; rw [List.take_length]; simp only [List.length_cons]; have := putL_le true names kids j; omega
            have hnx : ∀ j (h : j < kids.length), preL 6 kids.length true names kids (j + 1) = preL 6 kids.length true names kids j ++ (rowL (nameOf names j) ++ ndPut kids[j]) := fun j h => by
              unfold preL; rw [putL_take true names kids j h]; rfl
            have h0 : preL 6 kids.length true names kids 0 = [UInt8.ofNat 6, UInt8.ofNat kids.length] := rfl
            rw [e] at hb ⊢
            clear e
            obtain ⟨P, hP⟩ : ∃ P : Nat → List UInt8, preL 6 kids.length true names kids = P := ⟨_, rfl⟩
            rw [hP] at hb hle hnx h0 ⊢
            have HPb := Lib.hid hb
            have HPl := Lib.hid hle
            have HPn := Lib.hid hnx
            have HI := Lib.hid (IH (by omega))
            have HM := Lib.hid HN
            have HS4 := Lib.hid hs4
            clear HN hs4
            obtain ⟨kl, hk⟩ : ∃ kl, kids.length = kl := ⟨_, rfl⟩
            have HK := Lib.hid hk
            rw [hk] at h3 hkl h0 HC HM ⊢
            have HP0 := Lib.hid (two_row 6 kl (by omega) (by omega))
            have HP1 := Lib.hid h0
            have H3 := Lib.hid h3
            have kl70 : (kl : Int) ≤ 70 := by omega
            clear hle hnx h0 hP hb h3 IH hs hk
            go_enter Try.func14, Try.ntmps14
            (obtain ⟨r1, f1, i1, b1, l1⟩ := St.facts1 (HC.out.pick [0] (by decide) rfl))
            go_wp2_with fail
            (clear r1 f1 i1 b1 l1)
            have HQ := Lib.hid (HC.out.pushEq (alloc_next _ _) (show #[Value.int .u8 6, .int .u8 (kl : Int)] = blk 2 (atL [UInt8.ofNat 6, UInt8.ofNat kl]) from HP0.out) 5)
            have HC := Lib.hid (HC.out.skip (.cells #[Value.int .u8 6, .int .u8 (kl : Int)] 5))
            have hs1 : strOf 2 (atL [UInt8.ofNat 6, UInt8.ofNat kl]) = strL (P 0) := by
              rw [HP1.out]; exact strOf_strL rfl fun _ _ => rfl
            obtain ⟨r1, f1, i1, b1, l1⟩ := St.facts1 (HQ.out.pick [0] (by decide) rfl)
            rw [convBS_blk _ _ _ _ _ r1 i1 (Nat.le_refl _), hs1]
            clear r1 f1 i1 b1 l1 HQ hs1
            go_wp2_with fail
            go_loopw [5, 6] (fun t i wr => ∃ j : Nat, j ≤ kl ∧ i = .int .i64 (j : Int) ∧ t = .string (strL (P j)) ∧ Hid (St w [(w.heap.size, ndC ⟨5, n, s, ka, kl, kc, na, names.length, nc⟩)] wr)) (fun _ i _ => kl - (intOf i).toNat)
            case atStart => exact ⟨0, by omega, rfl, rfl, HC⟩
            case round =>
              clear HC
              obtain ⟨j, hj, rfl, rfl, HC⟩ := hrel
              by_cases hlt : j < kl
              · have d6 : (j : Int) < (kl : Int) := by omega
                have hjn : j < kids.length := by rw [HK.out]; exact hlt
                have hpl : (ndPut kids[j]).length ≤ 2 ^ 30 := by have h1 := HPl.out (j + 1); rw [HPn.out j hjn, List.length_append, List.length_append] at h1; have := HPb.out; omega
                have HNJ := Lib.hid (fun w' (hb : Below w.heap.size w w') => HM.out j w' hb)
                have hts := HS4.out j
                have hq2 : strL (P j) ++ strL (rowL (nameOf names j)) ++ strL (ndPut kids[j]) = strL (P (j + 1)) := by rw [strL_app, strL_app, HPn.out j hjn, List.append_assoc]
                have hq0 : (strL (P j)).size + (strL (rowL (nameOf names j))).size ≤ 9223372036854775807 := by
                  rw [strL_size, strL_size, rowL_len]; have := HPl.out j; have := HPb.out; omega
                have hq1 : (strL (P j) ++ strL (rowL (nameOf names j))).size + (strL (ndPut kids[j])).size ≤ 9223372036854775807 := by
                  rw [strL_app, strL_size, strL_size, List.length_append, rowL_len]; have := HPl.out j; have := HPb.out; omega
                generalize nameOf names j = t at HNJ hts hq0 hq1 hq2
                have HT := Lib.hid hts
                obtain ⟨ad, rfl⟩ := H3.out.some j hlt
                have HLD := Lib.hid (fun w' (hb : Below w.heap.size w w') => ((H3.out.call hb (Nat.le_refl _)).at j hlt).node)
                have HX := Lib.hid (fun w' (hb : Below w.heap.size w w') => HI.out j hjn w' hb hpl)
                generalize strL (ndPut kids[j]) = X at hq1 hq2 HX
                clear hts hpl
                (obtain ⟨r1, f1, i1, b1, l1⟩ := St.facts1 (HC.out.pick [0] (by decide) rfl))
                go_wp2_with fail
                (clear r1 f1 i1 b1 l1)
                refine (HNJ.out _ HC.out.below).mono ?_; rintro e w2 ⟨rfl, hw⟩
                have HC := Lib.hid (HC.out.call hw)
                clear hw
                go_wp2_with fail
                refine (refRow_any _ 0 (fun _ => 0) t HT.out (by rw [rowL_len]; have := HT.out; omega) w _ _ (Byt.nil HC.out _)).mono ?_; rintro e w3 ⟨g2, c2, F2, rfl, y1, y2, y3⟩
                have HQ := Lib.hid y3
                have hs1 : strOf (0 + (rowL t).length) F2 = strL (rowL t) := row_str y2
                obtain ⟨N, hN⟩ : ∃ N, 0 + (rowL t).length = N := ⟨_, rfl⟩
                rw [hN] at y1 hs1 ⊢
                have HC := Lib.hid HQ.out.tail
                clear y2 y3 hN
                obtain ⟨r1, f1, i1, b1, l1⟩ := St.facts1 (HQ.out.pick [0] (by decide) rfl)
                obtain ⟨r2, f2, i2, b2, l2⟩ := St.facts1 (HC.out.pick [0] (by decide) rfl)
                have hld := HLD.out _ HC.out.below
                go_wp2_with fail
                clear hld r1 f1 i1 b1 l1 r2 f2 i2 b2 l2
                refine (HX.out _ HC.out.below).mono ?_; rintro e w2 ⟨rfl, hw⟩
                have HC := Lib.hid (HC.out.call hw)
                clear hw
                go_wp2_with fail
                go_roundw
                case rel => exact ⟨j + 1, by omega, by go_num, rfl, HC⟩
                case measure => simp [intOf]; omega
              · obtain rfl : j = kl := by omega
                (obtain ⟨r1, f1, i1, b1, l1⟩ := St.facts1 (HC.out.pick [0] (by decide) rfl))
                go_wp2_with fail
                (go_ret
                 exact ⟨rfl, HC.out.below⟩)
theorem chkL_zero (p : Bool) (names : List ByteArray) : ∀ (l : List Nd) (i d : Nat), chkL p names i l d = 0 → ∀ x ∈ l, ndChk x d = 0
  | [], _, _, _, x, hx => by cases hx
  | y :: l, i, d, h, x, hx => by
    rw [chkL] at h
    split at h
    · omega
    · split at h
      · omega
      · split at h
        · contradiction
        · rename_i h3
          rcases List.mem_cons.1 hx with rfl | hx
          · omega
          · exact chkL_zero p names l (i + 1) d h x hx
theorem chk_kids {k n : Nat} {s : ByteArray} {kids : List Nd} {names : List ByteArray} {d : Nat} (h : ndChk (.mk k n s kids names) d = 0) (hk : 3 < k) : ∀ x ∈ kids, ndChk x (d + 1) = 0 := by
  rw [ndChk] at h
  split at h
  · omega
  · split at h
    · omega
    · split at h
      · omega
      · split at h
        · omega
        · split at h
          · omega
          · exact chkL_zero _ _ _ _ _ h
theorem refPut_any : ∀ (x : Nd), Small x → ∀ d, ndChk x d = 0 → (ndPut x).length ≤ 2 ^ 30 → ∀ (c : NdC) (w : World), NodeAt w c x → Calls Try.prog 14 #[.agg (ndC c)] w fun e w' => e = .returned (.string (strL (ndPut x))) ∧ Below w.heap.size w w' := by
  refine Nd.ind fun k n s kids names ih => ?_
  intro hs d hc hb c w h
  have h0 := h
  cases h with
  | mk c kids names cs hk hn e1 e2 e3 e4 e5 =>
    obtain ⟨k, n, s, ka, kn, kc, na, nn, nc⟩ := c
    dsimp only at e1 e2 e3 e5 hk hn hc hs hb ih
    subst e1 e2
    have hk5 : k ≤ 5 := by
      rcases Nat.lt_or_ge 5 k with h | h
      · exfalso; rw [ndChk, if_pos h] at hc; omega
      · exact h
    have hks : ∀ x ∈ kids, Small x := by cases hs; assumption
    exact refPutC k n s ka kc na nc kids names cs hk hn hk5 hs hb w e3 (fun i w' hw => name_any _ _ i w' (h0.call hw (Nat.le_refl _)))
      (fun h3 i hi w' hw hl => ih kids[i] (List.getElem_mem hi) (hks _ (List.getElem_mem hi)) (d + 1) (chk_kids hc h3 _ (List.getElem_mem hi)) hl (cs i) w' ((e4 i hi).call hw (Nat.le_refl _)))
end Go.Proofs.Ytinlcpenllfcpaa
