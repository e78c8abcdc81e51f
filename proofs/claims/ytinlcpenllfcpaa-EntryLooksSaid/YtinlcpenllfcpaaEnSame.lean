/- entry.Put; slices.Equal of bytes; entry.Same. -/
import Derived.Test.YtinlcpenllfcpaaEnValue
namespace Go.Proofs.Ytinlcpenllfcpaa
open Go.RowKit
attribute [local go_sem] B_xor B_or B_and
attribute [local go_sem] blk_set blk_size blk_get blk_getE upd_same oneCells_blk paste_blk cut_blk szOf
attribute [local go_sem high] paste_all cut_head
attribute [local go_sem] rowAt_alloc rowAt_drew rowAt_drewN isRow_alloc isRow_drew isRow_drewN freeRow_alloc freeRow_end freeRow_drew freeRow_drewN
attribute [local go_sem] setRow_alloc setRow_drew setRow_drewN setCell_drewN alloc_drewN rowAt_put isRow_setRow freeRow_put
attribute [local go_sem ↓] loadS_in storeS_in indexS_in copyS_in
attribute [local go_sem] loadS_row loadS_one storeS_row storeS_one indexS_blk copyS_rows run_equalIn_blk same_refl arrayAt_row
attribute [local go_sem] cell_row frozen_row st_setCell st_blk_ne stepAt stepUpon
attribute [local go_sem high] run_eql_blk run_neq_blk
attribute [local go_sem ↓] convBS_in
attribute [local go_sem] convBS_row convBS_nil allBytes_blk bytesOf_blk

theorem small_name {names : List ByteArray} (h : ∀ t ∈ names, t.size ≤ 1000) (i : Nat) : (nameOf names i).size ≤ 1000 := by
  unfold nameOf
  rw [List.getD_eq_getElem?_getD]
  cases hg : names[i]? with
  | none => exact Nat.zero_le _
  | some t => exact h t (List.mem_of_getElem? hg)
theorem ndPut_len : ∀ (x : Nd), Small x → (ndPut x).length ≤ 80000 * x.cnt := by
  refine Nd.ind fun k n s kids names ih => ?_
  intro hs
  cases hs with
  | mk _ _ _ _ _ s1 s2 s3 s4 s5 =>
    have hL : ∀ (l : List Nd) (p : Bool) (i : Nat), (∀ y ∈ l, y ∈ kids) → (putL p names i l).length ≤ l.length * 1002 + 80000 * cntL l := by
      intro l
      induction l with
      | nil => intro p i _; rw [putL]; simp
      | cons y l ihl =>
        intro p i hm
        have h1 := ih y (hm y (.head _)) (s5 y (hm y (.head _)))
        have h2 := ihl p (i + 1) (fun z hz => hm z (.tail _ hz))
        have h3 : (if p = true then rowL (nameOf names i) else []).length ≤ 1002 := by
          split
          · rw [rowL_len]; have := small_name s4 i; omega
          · exact Nat.zero_le _
        rw [putL, List.length_append, List.length_append, cntL, List.length_cons, Nat.add_mul, Nat.mul_add]
        omega
    have hf := hL kids false 0 (fun _ h => h)
    have ht := hL kids true 0 (fun _ h => h)
    have hr := rowL_len s
    have hb := beL_len 8 n
    unfold Nd.cnt
    rw [ndPut]
    split
    · simp; omega
    · split
      · simp; omega
      · split
        · simp only [List.length_cons]; omega
        · split
          · simp only [List.length_cons]; omega
          · split
            · simp only [List.length_cons]; omega
            · split
              · simp only [List.length_cons]; omega
              · simp; omega
/-- what Put tells -/
inductive PutR (w : World) (v : Value) (E : Nat) (w' : World) (C : Nat) (l : List UInt8) : Prop
  | bad (h : C ≠ 0) (hv : v = .slice none 0 0) (hE : E = C) (hb : Below w.heap.size w w') : PutR w v E w' C l
  | ok (h : C = 0) (g c : Nat) (F : Nat → UInt8) (hv : v = .slice (some ⟨g, 0, none⟩) l.length c) (hE : E = 0) (hc : l.length ≤ c) (hF : ∀ i, i < l.length → F i = atL l i) (hC : St w [(g, blk c F)] w') : PutR w v E w' C l
def Put10 (w : World) (C : Nat) (l : List UInt8) (e : Ending) (w' : World) : Prop := ∃ v E, e = .returned (.tuple #[v, .int .i64 ((E : Nat) : Int)]) ∧ PutR w v E w' C l
set_option maxRecDepth 100000 in
set_option maxHeartbeats 1000000 in
theorem put10_any (x : Nd) (hsm : Small x) (hlen : (ndPut x).length ≤ 2 ^ 30) (v : Value) (w : World) (h : AnyAt w v x) : Calls Try.prog 11 #[v] w (Put10 w (ndChk x 0) (ndPut x)) := by
  have KC := Lib.hid (checkTop_any x v w h)
  have KP := Lib.hid (fun w' (hb : St w [] w') => put_any x hsm v (.slice none 0 0) 0 (fun _ => 0) w w' [] h (by omega) (Byt.nil hb _))
  obtain ⟨C, hCe⟩ : ∃ C, ndChk x 0 = C := ⟨_, rfl⟩
  obtain ⟨l, hl⟩ : ∃ l, ndPut x = l := ⟨_, rfl⟩
  rw [hCe] at KC ⊢
  rw [hl] at KP ⊢
  have HC := Lib.hid (St.nil w)
  clear hsm hlen h hCe hl
  by_cases hc : C = 0
  · subst hc
    go_enter Try.func11, Try.ntmps11
    go_wp2_with fail
    refine KC.out.mono ?_; rintro r w1 ⟨rfl, hw⟩
    have HC := Lib.hid (HC.out.call hw)
    clear hw KC
    go_wp2_with fail
    refine (KP.out _ HC.out).mono ?_; rintro r w2 ⟨g, c, F, rfl, y1, y2, y3⟩
    have HC := Lib.hid y3
    have e0 : 0 + l.length = l.length := Nat.zero_add _
    rw [e0] at y1 y2 ⊢
    have Y1 := Lib.hid y1
    have Y2 := Lib.hid (show ∀ i, i < l.length → F i = atL l i from fun i hi => by rw [y2 i hi]; unfold glue; rw [if_neg (by omega), Nat.sub_zero])
    clear y1 y2 y3 KP e0
    go_wp2_with fail
    go_ret2
    exact ⟨.slice (some ⟨g, 0, none⟩) l.length c, 0, rfl, .ok rfl g c F rfl rfl Y1.out Y2.out HC.out⟩
  · have d1 : ((C : Int) != 0) = true := by rw [bne_iff_ne]; omega
    have HCC := Lib.hid hc
    clear hc KP
    go_enter Try.func11, Try.ntmps11
    go_wp2_with fail
    refine KC.out.mono ?_; rintro r w1 ⟨rfl, hw⟩
    have HC := Lib.hid (HC.out.call hw)
    clear hw KC
    go_wp2_with fail
    go_ret2
    exact ⟨.slice none 0 0, C, rfl, .bad HCC.out rfl rfl HC.out.below⟩
theorem list_ext_at {a b : List UInt8} (hl : a.length = b.length) (h : ∀ i, i < a.length → atL a i = atL b i) : a = b := by
  apply List.ext_getElem hl
  intro i h1 h2
  have := h i h1
  unfold atL at this
  simpa [h1, h2] using this
set_option maxRecDepth 100000 in
set_option maxHeartbeats 2000000 in
/-- two rows of bytes, held against each other -/
theorem equal_any (g1 c1 g2 c2 : Nat) (F1 F2 : Nat → UInt8) (a b : List UInt8) (h1 : a.length ≤ c1) (h2 : b.length ≤ c2) (f1 : ∀ i, i < a.length → F1 i = atL a i) (f2 : ∀ i, i < b.length → F2 i = atL b i) (ha : a.length ≤ 2 ^ 30) (w0 w : World) (hC : St w0 [(g1, blk c1 F1), (g2, blk c2 F2)] w) (v : Bool) (hv : decide (a = b) = v) :
    Calls Try.prog 38 #[.slice (some ⟨g1, 0, none⟩) a.length c1, .slice (some ⟨g2, 0, none⟩) b.length c2] w fun e w' => e = .returned (.bool v) ∧ Below w.heap.size w w' := by
  have HC := Lib.hid hC
  obtain ⟨la, hla⟩ : ∃ n, a.length = n := ⟨_, rfl⟩
  obtain ⟨lb, hlb⟩ : ∃ n, b.length = n := ⟨_, rfl⟩
  by_cases hl : la = lb
  · subst hl
    have HF1 := Lib.hid f1
    have HF2 := Lib.hid f2
    have HLA := Lib.hid hla
    have HLB := Lib.hid hlb
    have HV := Lib.hid hv
    have H1 := Lib.hid h1
    have H2 := Lib.hid h2
    have l30 : (la : Int) ≤ 1073741824 := by omega
    rw [hla, hlb]
    clear hC h1 h2 f1 f2 ha hla hlb hv
    go_enter Try.func38, Try.ntmps38
    go_wp2_with fail
    go_loopw [13] (fun i wr => ∃ j : Nat, j ≤ la ∧ i = .int .i64 (j : Int) ∧ Hid (∀ i, i < j → atL a i = atL b i) ∧ Hid (St w [] wr)) (fun i _ => la - (intOf i).toNat)
    case atStart => exact ⟨0, by omega, rfl, Lib.hid (fun i hi => absurd hi (by omega)), Lib.hid (St.nil w)⟩
    case round =>
      obtain ⟨j, hj, rfl, HA, HB⟩ := hrel
      by_cases hlt : j < la
      · have d6 : (j : Int) < (la : Int) := by omega
        have hC := HC.out.call HB.out.below
        have HD := Lib.hid hC
        clear hC
        have e1 : F1 j = atL a j := HF1.out j (by rw [HLA.out]; exact hlt)
        have e2 : F2 j = atL b j := HF2.out j (by rw [HLB.out]; exact hlt)
        have hc1 : j < c1 := by have := H1.out; have := HLA.out; omega
        have hc2 : j < c2 := by have := H2.out; have := HLB.out; omega
        have hE : (B (F1 j) != B (F2 j)) = decide (atL a j ≠ atL b j) := by
          rw [e1, e2, Bool.eq_iff_iff, bne_iff_ne, decide_eq_true_eq, ne_eq, ne_eq, B_eq]
        clear e1 e2
        by_cases he : atL a j = atL b j
        · rw [decide_eq_false (fun h => h he)] at hE
          have HA2 := Lib.hid (show ∀ i, i < j + 1 → atL a i = atL b i from fun i hi => by
            by_cases e : i = j
            · rw [e]; exact he
            · exact HA.out i (by omega))
          clear he HF1 HF2
          go_upto_region 6 with fail
          refine St.qregion (St.nil wr) (by kernel_rfl) (by decide +kernel) ?_
          (first
             | (apply qw_skip rfl)
             | (apply qw_step rfl
                focus
                  intro w0' hC
                  obtain ⟨⟨r1, f1, i1, b1, l1⟩, ⟨r2, f2, i2, b2, l2⟩, m12, m21⟩ := St.facts2 (HD.out.call hC.below)
                  clear hC
                  go_simp
                  with_reducible rfl)
           try simp only [Act.put, List.setIfInBounds_toArray, List.set])
          (first
             | (apply qw_skip rfl)
             | (apply qw_step rfl
                focus
                  intro w0' hC
                  obtain ⟨⟨r1, f1, i1, b1, l1⟩, ⟨r2, f2, i2, b2, l2⟩, m12, m21⟩ := St.facts2 (HD.out.call hC.below)
                  clear hC
                  go_simp
                  with_reducible rfl)
           try simp only [Act.put, List.setIfInBounds_toArray, List.set])
          (first
             | (apply qw_skip rfl)
             | (apply qw_step rfl
                focus
                  intro w0' hC
                  obtain ⟨⟨r1, f1, i1, b1, l1⟩, ⟨r2, f2, i2, b2, l2⟩, m12, m21⟩ := St.facts2 (HD.out.call hC.below)
                  clear hC
                  go_simp
                  with_reducible rfl)
           try simp only [Act.put, List.setIfInBounds_toArray, List.set])
          (first
             | (apply qw_skip rfl)
             | (apply qw_step rfl
                focus
                  intro w0' hC
                  obtain ⟨⟨r1, f1, i1, b1, l1⟩, ⟨r2, f2, i2, b2, l2⟩, m12, m21⟩ := St.facts2 (HD.out.call hC.below)
                  clear hC
                  go_simp
                  with_reducible rfl)
           try simp only [Act.put, List.setIfInBounds_toArray, List.set])
          (first
             | (apply qw_skip rfl)
             | (apply qw_step rfl
                focus
                  intro w0' hC
                  obtain ⟨⟨r1, f1, i1, b1, l1⟩, ⟨r2, f2, i2, b2, l2⟩, m12, m21⟩ := St.facts2 (HD.out.call hC.below)
                  clear hC
                  go_simp
                  with_reducible rfl)
           try simp only [Act.put, List.setIfInBounds_toArray, List.set])
          (first
             | (apply qw_skip rfl)
             | (apply qw_step rfl
                focus
                  intro w0' hC
                  obtain ⟨⟨r1, f1, i1, b1, l1⟩, ⟨r2, f2, i2, b2, l2⟩, m12, m21⟩ := St.facts2 (HD.out.call hC.below)
                  clear hC
                  go_simp
                  with_reducible rfl)
           try simp only [Act.put, List.setIfInBounds_toArray, List.set])
          (first
             | (apply qw_skip rfl)
             | (apply qw_step rfl
                focus
                  intro w0' hC
                  obtain ⟨⟨r1, f1, i1, b1, l1⟩, ⟨r2, f2, i2, b2, l2⟩, m12, m21⟩ := St.facts2 (HD.out.call hC.below)
                  clear hC
                  go_simp
                  with_reducible rfl)
           try simp only [Act.put, List.setIfInBounds_toArray, List.set])
          (first
             | (apply qw_skip rfl)
             | (apply qw_step rfl
                focus
                  intro w0' hC
                  obtain ⟨⟨r1, f1, i1, b1, l1⟩, ⟨r2, f2, i2, b2, l2⟩, m12, m21⟩ := St.facts2 (HD.out.call hC.below)
                  clear hC
                  go_simp
                  with_reducible rfl)
           try simp only [Act.put, List.setIfInBounds_toArray, List.set])
          (first
             | (apply qw_skip rfl)
             | (apply qw_step rfl
                focus
                  intro w0' hC
                  obtain ⟨⟨r1, f1, i1, b1, l1⟩, ⟨r2, f2, i2, b2, l2⟩, m12, m21⟩ := St.facts2 (HD.out.call hC.below)
                  clear hC
                  go_simp
                  with_reducible rfl)
           try simp only [Act.put, List.setIfInBounds_toArray, List.set])
          refine qw_nil ?_
          intro w3 hC
          have HB := Lib.hid (HB.out.call hC.below)
          clear hC hE
          go_wp2_with fail
          go_roundw
          case rel => exact ⟨j + 1, by omega, by go_num, HA2, HB⟩
          case measure => simp [intOf]; omega
        · rw [decide_eq_true he] at hE
          have hv := HV.out
          rw [decide_eq_false (fun h => he (by rw [h]))] at hv
          subst hv
          clear he HF1 HF2 HV
          go_upto_region 6 with fail
          refine St.qregion (St.nil wr) (by kernel_rfl) (by decide +kernel) ?_
          (first
             | (apply qw_skip rfl)
             | (apply qw_step rfl
                focus
                  intro w0' hC
                  obtain ⟨⟨r1, f1, i1, b1, l1⟩, ⟨r2, f2, i2, b2, l2⟩, m12, m21⟩ := St.facts2 (HD.out.call hC.below)
                  clear hC
                  go_simp
                  with_reducible rfl)
           try simp only [Act.put, List.setIfInBounds_toArray, List.set])
          (first
             | (apply qw_skip rfl)
             | (apply qw_step rfl
                focus
                  intro w0' hC
                  obtain ⟨⟨r1, f1, i1, b1, l1⟩, ⟨r2, f2, i2, b2, l2⟩, m12, m21⟩ := St.facts2 (HD.out.call hC.below)
                  clear hC
                  go_simp
                  with_reducible rfl)
           try simp only [Act.put, List.setIfInBounds_toArray, List.set])
          (first
             | (apply qw_skip rfl)
             | (apply qw_step rfl
                focus
                  intro w0' hC
                  obtain ⟨⟨r1, f1, i1, b1, l1⟩, ⟨r2, f2, i2, b2, l2⟩, m12, m21⟩ := St.facts2 (HD.out.call hC.below)
                  clear hC
                  go_simp
                  with_reducible rfl)
           try simp only [Act.put, List.setIfInBounds_toArray, List.set])
          (first
             | (apply qw_skip rfl)
             | (apply qw_step rfl
                focus
                  intro w0' hC
                  obtain ⟨⟨r1, f1, i1, b1, l1⟩, ⟨r2, f2, i2, b2, l2⟩, m12, m21⟩ := St.facts2 (HD.out.call hC.below)
                  clear hC
                  go_simp
                  with_reducible rfl)
           try simp only [Act.put, List.setIfInBounds_toArray, List.set])
          (first
             | (apply qw_skip rfl)
             | (apply qw_step rfl
                focus
                  intro w0' hC
                  obtain ⟨⟨r1, f1, i1, b1, l1⟩, ⟨r2, f2, i2, b2, l2⟩, m12, m21⟩ := St.facts2 (HD.out.call hC.below)
                  clear hC
                  go_simp
                  with_reducible rfl)
           try simp only [Act.put, List.setIfInBounds_toArray, List.set])
          (first
             | (apply qw_skip rfl)
             | (apply qw_step rfl
                focus
                  intro w0' hC
                  obtain ⟨⟨r1, f1, i1, b1, l1⟩, ⟨r2, f2, i2, b2, l2⟩, m12, m21⟩ := St.facts2 (HD.out.call hC.below)
                  clear hC
                  go_simp
                  with_reducible rfl)
           try simp only [Act.put, List.setIfInBounds_toArray, List.set])
          (first
             | (apply qw_skip rfl)
             | (apply qw_step rfl
                focus
                  intro w0' hC
                  obtain ⟨⟨r1, f1, i1, b1, l1⟩, ⟨r2, f2, i2, b2, l2⟩, m12, m21⟩ := St.facts2 (HD.out.call hC.below)
                  clear hC
                  go_simp
                  with_reducible rfl)
           try simp only [Act.put, List.setIfInBounds_toArray, List.set])
          (first
             | (apply qw_skip rfl)
             | (apply qw_step rfl
                focus
                  intro w0' hC
                  obtain ⟨⟨r1, f1, i1, b1, l1⟩, ⟨r2, f2, i2, b2, l2⟩, m12, m21⟩ := St.facts2 (HD.out.call hC.below)
                  clear hC
                  go_simp
                  with_reducible rfl)
           try simp only [Act.put, List.setIfInBounds_toArray, List.set])
          (first
             | (apply qw_skip rfl)
             | (apply qw_step rfl
                focus
                  intro w0' hC
                  obtain ⟨⟨r1, f1, i1, b1, l1⟩, ⟨r2, f2, i2, b2, l2⟩, m12, m21⟩ := St.facts2 (HD.out.call hC.below)
                  clear hC
                  go_simp
                  with_reducible rfl)
           try simp only [Act.put, List.setIfInBounds_toArray, List.set])
          refine qw_nil ?_
          intro w3 hC
          have HB := Lib.hid (HB.out.call hC.below)
          clear hC hE
          go_wp2_with fail
          go_ret
          exact ⟨rfl, HB.out.below⟩
      · obtain rfl : j = la := by omega
        have hv := HV.out
        rw [decide_eq_true (list_ext_at (HLA.out.trans HLB.out.symm) (fun i hi => HA.out i (by have := HLA.out; omega)))] at hv
        subst hv
        clear HV
        go_wp2_with fail
        go_ret
        exact ⟨rfl, HB.out.below⟩
  · have d1 : ((la : Int) != (lb : Int)) = true := by rw [bne_iff_ne]; omega
    rw [decide_eq_false (fun h => hl (by rw [← hla, ← hlb, h]))] at hv
    subst hv
    rw [hla, hlb]
    clear hC h1 h2 f1 f2 ha hla hlb hl HC
    go_enter Try.func38, Try.ntmps38
    go_wp2_with fail
    go_ret
    exact ⟨rfl, Below.refl _ _⟩
def sameB (x y : Nd) : Bool := decide (ndChk x 0 = 0 ∧ ndChk y 0 = 0 ∧ ndPut x = ndPut y)
set_option maxRecDepth 100000 in
set_option maxHeartbeats 2000000 in
theorem same10_any (x y : Nd) (hsx : Small x) (hsy : Small y) (hlx : (ndPut x).length ≤ 2 ^ 30) (hly : (ndPut y).length ≤ 2 ^ 30) (u v : Value) (w : World) (hx : AnyAt w u x) (hy : AnyAt w v y) : Calls Try.prog 23 #[u, v] w fun e w' => e = .returned (.bool (sameB x y)) ∧ Below w.heap.size w w' := by
  have K1 := Lib.hid (put10_any x hsx hlx u w hx)
  have K2 := Lib.hid (fun w' (hb : Below w.heap.size w w') => put10_any y hsy hly v w' (hy.call hb (Nat.le_refl _)))
  obtain ⟨R, hR⟩ : ∃ R, sameB x y = R := ⟨_, rfl⟩
  rw [hR]
  have HR := Lib.hid hR
  obtain ⟨C1, hC1⟩ : ∃ C, ndChk x 0 = C := ⟨_, rfl⟩
  obtain ⟨C2, hC2⟩ : ∃ C, ndChk y 0 = C := ⟨_, rfl⟩
  obtain ⟨a, ha⟩ : ∃ l, ndPut x = l := ⟨_, rfl⟩
  obtain ⟨b, hb⟩ : ∃ l, ndPut y = l := ⟨_, rfl⟩
  rw [hC1, ha] at K1
  rw [hC2, hb] at K2
  rw [ha] at hlx
  have HR := Lib.hid (show decide (C1 = 0 ∧ C2 = 0 ∧ a = b) = R by rw [← hC1, ← hC2, ← ha, ← hb]; exact hR)
  have HL := Lib.hid hlx
  clear hx hy hsx hsy hlx hly hR hC1 hC2 ha hb
  go_enter Try.func23, Try.ntmps23
  go_wp2_with fail
  refine K1.out.mono ?_; rintro r w1 ⟨v1, E1, rfl, hp1⟩
  have hb1 : Below w.heap.size w w1 := by
    cases hp1 with
    | bad h hv hE hb => exact hb
    | ok h g c F hv hE hc hF hC => exact hC.below
  have HP1 := Lib.hid hp1
  have HB := Lib.hid hb1
  clear K1 hp1 hb1
  go_wp2_with fail
  refine (K2.out _ HB.out).mono ?_; rintro r w2 ⟨v2, E2, rfl, hp2⟩
  have HP2 := Lib.hid hp2
  clear K2 hp2
  cases HP1.out with
  | bad h hv hE hb =>
    subst hE hv
    have e1 : ((E1 : Int) == 0) = false := by rw [beq_eq_false_iff_ne]; omega
    have hR := HR.out
    rw [decide_eq_false (fun k => h k.1)] at hR
    have hb2 : Below w.heap.size w w2 := by
      cases HP2.out with
      | bad _ _ _ hb' => exact hb.trans (hb'.mono hb.size)
      | ok _ _ _ _ _ _ _ _ hC => exact hb.trans (hC.below.mono hb.size)
    have HB2 := Lib.hid hb2
    subst hR
    clear HR hb hb2 HP1 HP2 h
    go_wp2_with fail
    go_ret
    exact ⟨rfl, HB2.out⟩
  | ok h g1 c1 F1 hv hE hc hF hC =>
    subst hE hv h
    cases HP2.out with
    | bad h2 hv2 hE2 hb2 =>
      subst hE2 hv2
      have e2 : ((E2 : Int) == 0) = false := by rw [beq_eq_false_iff_ne]; omega
      have hR := HR.out
      rw [decide_eq_false (fun k => h2 k.2.1)] at hR
      have HB2 := Lib.hid (hC.below.trans (hb2.mono hC.below.size))
      subst hR
      clear HR hC hb2 hc hF HP1 HP2 h2
      go_wp2_with fail
      go_ret
      exact ⟨rfl, HB2.out⟩
    | ok h2 g2 c2 F2 hv2 hE2 hc2 hF2 hC2 =>
      subst hE2 hv2 h2
      have HC := Lib.hid ((hC.joins hC2).perm (L' := [(g1, blk c1 F1), (g2, blk c2 F2)]) (.swap _ _ _))
      have KE := Lib.hid (fun w' (h : St w [(g1, blk c1 F1), (g2, blk c2 F2)] w') => equal_any g1 c1 g2 c2 F1 F2 a b hc hc2 hF hF2 HL.out w w' h R (by rw [← HR.out]; exact decide_eq_decide.2 ⟨fun k => ⟨rfl, rfl, k⟩, fun k => k.2.2⟩))
      clear hC hC2 hc hc2 hF hF2 HP1 HP2
      go_wp2_with fail
      refine (KE.out _ HC.out).mono ?_; rintro r w3 ⟨rfl, hw⟩
      have HC := Lib.hid (HC.out.call hw)
      clear hw KE
      go_wp2_with fail
      go_ret
      exact ⟨rfl, HC.out.below⟩
end Go.Proofs.Ytinlcpenllfcpaa
