/- The reference's Find; slices.IndexFunc, entry.Find. -/
import Derived.Test.YtinlcpenllfcpaaEnSame
namespace Go.Proofs.Ytinlcpenllfcpaa
open Go.RowKit
attribute [local go_sem] B_xor B_or B_and
attribute [local go_sem] blk_set blk_size blk_get blk_getE upd_same oneCells_blk paste_blk cut_blk szOf
attribute [local go_sem high] paste_all cut_head
attribute [local go_sem] rowAt_alloc rowAt_drew rowAt_drewN isRow_alloc isRow_drew isRow_drewN freeRow_alloc freeRow_end freeRow_drew freeRow_drewN
attribute [local go_sem] setRow_alloc setRow_drew setRow_drewN setCell_drewN alloc_drewN rowAt_put isRow_setRow freeRow_put
attribute [local go_sem ↓] loadS_in storeS_in indexS_in copyS_in
attribute [local go_sem] loadS_row loadS_one storeS_row storeS_one indexS_blk copyS_rows run_equalIn_blk same_refl arrayAt_row
attribute [local go_sem] cell_row frozen_row st_setCell st_blk_ne stepAt stepUpon
attribute [local go_sem high] run_eql_blk run_neq_blk
attribute [local go_sem ↓] convBS_in
attribute [local go_sem] convBS_row convBS_nil allBytes_blk bytesOf_blk
attribute [local go_sem] ndC_size ndC_get0 ndC_get1 ndC_get2 ndC_get3 ndC_get4 ndC_getE0 ndC_getE1 ndC_getE2 ndC_getE3 ndC_getE4 ndC_ne ndC_one ndC_cut ndC_paste ndC_set0 ndC_set1 ndC_set2 ndC_set3 ndC_set4 size_nd agg_nd
attribute [local go_sem] pairC_size pairC_get0 pairC_get1 pairC_getE0 pairC_getE1 pairC_ne pairC_one pairC_cut pairC_paste pairC_set0 pairC_set1 size_pair agg_pair
attribute [local go_sem] as_bool_yes as_u64_yes as_text_yes as_list_yes as_pairs_yes as_text_must as_u64_must as_bool_no as_u64_no as_text_no as_list_no as_pairs_no as_bool_nil as_u64_nil as_text_nil as_list_nil as_pairs_nil

/-- the first place of a name, from i on, of so many -/
def findI (nm : Nat → ByteArray) (s : ByteArray) : Nat → Nat → Option Nat
  | _, 0 => none
  | i, n + 1 => if nm i = s then some i else findI nm s (i + 1) n
def fInt : Option Nat → Int
  | none => -1
  | some i => (i : Int)
theorem findI_lt {nm : Nat → ByteArray} {s : ByteArray} : ∀ {n i j : Nat}, findI nm s i n = some j → i ≤ j ∧ j < i + n
  | 0, i, j, h => by cases h
  | n + 1, i, j, h => by
    unfold findI at h
    split at h
    · cases h; omega
    · have := findI_lt h; omega
def ndFind (x : Nd) (s : ByteArray) : Option Nat := if x.kind = 5 then findI (nameOf x.names) s 0 x.kids.length else none
set_option maxRecDepth 100000 in
set_option maxHeartbeats 2000000 in
theorem refFind_any (x : Nd) (c : NdC) (t : ByteArray) (w : World) (h : NodeAt w c x) (hk : x.kids.length ≤ 70) : Calls Try.prog 22 #[.agg (ndC c), .string t] w fun e w' => e = .returned (.int .i64 (fInt (ndFind x t))) ∧ Below w.heap.size w w' := by
  have h0 := h
  have HM := Lib.hid (fun i w' (hb : Below w.heap.size w w') => name_any x c i w' (h0.call hb (Nat.le_refl _)))
  cases h with
  | mk c kids names cs hk2 hn e1 e2 e3 e4 e5 =>
    obtain ⟨k, n, s, ka, kn, kc, na, nn, nc⟩ := c
    dsimp only at e1 e2 e3 e5 hk hk2
    have hk : kids.length ≤ 70 := hk
    obtain ⟨R, hR⟩ : ∃ R, ndFind (.mk k n s kids names) t = R := ⟨_, rfl⟩
    dsimp only
    rw [hR]
    have hR3 : (if k = 5 then findI (nameOf names) t 0 kids.length else none) = R := hR
    clear hR
    have hR := hR3
    clear hR3
    rw [← e1] at hk hR
    have HC := Lib.hid ((St.nil w).pushA (ndC ⟨k, n, s, ka, kn, kc, na, nn, nc⟩) 26 rfl)
    have k70 : (kn : Int) ≤ 70 := by omega
    have HM := Lib.hid (fun i w' hb => (show Calls Try.prog 28 #[.agg (ndC ⟨k, n, s, ka, kn, kc, na, nn, nc⟩), .int .i64 ((i : Nat) : Int)] w' fun e w'' => e = .returned (.string (nameOf names i)) ∧ Below w'.heap.size w' w'' from HM.out i w' hb))
    clear e1 e2 e3 e4 e5 h0
    by_cases k5 : k = 5
    · subst k5
      rw [if_pos rfl] at hR
      have HR := Lib.hid hR
      clear hR
      go_enter Try.func22, Try.ntmps22
      (obtain ⟨r1, f1, i1, b1, l1⟩ := St.facts1 (HC.out.pick [0] (by decide) rfl))
      go_wp2_with fail
      (clear r1 f1 i1 b1 l1)
      go_loopw [5] (fun i wr => ∃ j : Nat, j ≤ kn ∧ i = .int .i64 (j : Int) ∧ Hid (findI (nameOf names) t j (kn - j) = R) ∧ Hid (St w [(w.heap.size, ndC ⟨5, n, s, ka, kn, kc, na, nn, nc⟩)] wr)) (fun i _ => kn - (intOf i).toNat)
      case atStart => exact ⟨0, by omega, rfl, HR, HC⟩
      case round =>
        clear HC HR
        obtain ⟨j, hj, rfl, HR, HC⟩ := hrel
        by_cases hlt : j < kn
        · have d6 : (j : Int) < (kn : Int) := by omega
          obtain ⟨u, hu⟩ : ∃ u, kn - j = u + 1 := ⟨kn - j - 1, by omega⟩
          have hR := HR.out
          rw [hu] at hR
          unfold findI at hR
          have HN := Lib.hid (fun w' hb => HM.out j w' hb)
          obtain ⟨q, hq⟩ : ∃ q, nameOf names j = q := ⟨_, rfl⟩
          rw [hq] at HN hR
          have HU := Lib.hid hu
          clear hu
          by_cases he : q = t
          · rw [if_pos he] at hR
            subst he
            have s1 := text_same q
            subst hR
            clear HR hq
            (obtain ⟨r1, f1, i1, b1, l1⟩ := St.facts1 (HC.out.pick [0] (by decide) rfl))
            go_wp2_with fail
            (clear r1 f1 i1 b1 l1)
            refine (HN.out _ HC.out.below).mono ?_; rintro r w2 ⟨rfl, hw⟩
            have HC := Lib.hid (HC.out.call hw)
            clear hw
            go_wp2_with fail
            go_ret
            exact ⟨rfl, HC.out.below⟩
          · rw [if_neg he] at hR
            have s1 := text_ne he
            have HR2 := Lib.hid (show findI (nameOf names) t (j + 1) (kn - (j + 1)) = R by rw [show kn - (j + 1) = u by have := HU.out; omega]; exact hR)
            clear HR hR hq he
            (obtain ⟨r1, f1, i1, b1, l1⟩ := St.facts1 (HC.out.pick [0] (by decide) rfl))
            go_wp2_with fail
            (clear r1 f1 i1 b1 l1)
            refine (HN.out _ HC.out.below).mono ?_; rintro r w2 ⟨rfl, hw⟩
            have HC := Lib.hid (HC.out.call hw)
            clear hw
            go_wp2_with fail
            go_roundw
            case rel => exact ⟨j + 1, by omega, by go_num, HR2, HC⟩
            case measure => simp [intOf]; omega
        · obtain rfl : j = kn := by omega
          have hR := HR.out
          rw [Nat.sub_self] at hR
          unfold findI at hR
          subst hR
          clear HR
          (obtain ⟨r1, f1, i1, b1, l1⟩ := St.facts1 (HC.out.pick [0] (by decide) rfl))
          go_wp2_with fail
          go_ret
          exact ⟨rfl, HC.out.below⟩
    · rw [if_neg k5] at hR
      subst hR
      have d5 : ((k : Int) == 5) = false := by rw [beq_eq_false_iff_ne]; omega
      clear HM
      by_cases hz : 0 < kn
      · have z1 : (0 : Int) < (kn : Int) := by omega
        clear k5 hk
        go_enter Try.func22, Try.ntmps22
        (obtain ⟨r1, f1, i1, b1, l1⟩ := St.facts1 (HC.out.pick [0] (by decide) rfl))
        go_wp2_with fail
        (clear r1 f1 i1 b1 l1)
        go_loopw [5] (fun i wr => i = .int .i64 0 ∧ Hid (St w [(w.heap.size, ndC ⟨k, n, s, ka, kn, kc, na, nn, nc⟩)] wr)) (fun _ _ => 0)
        case atStart => exact ⟨rfl, HC⟩
        case round =>
          clear HC
          obtain ⟨rfl, HC⟩ := hrel
          (obtain ⟨r1, f1, i1, b1, l1⟩ := St.facts1 (HC.out.pick [0] (by decide) rfl))
          go_wp2_with fail
          go_ret
          exact ⟨rfl, HC.out.below⟩
      · obtain rfl : kn = 0 := by omega
        clear k5 hk hz
        go_enter Try.func22, Try.ntmps22
        (obtain ⟨r1, f1, i1, b1, l1⟩ := St.facts1 (HC.out.pick [0] (by decide) rfl))
        go_wp2_with fail
        (clear r1 f1 i1 b1 l1)
        go_loopw [5] (fun i wr => i = .int .i64 0 ∧ Hid (St w [(w.heap.size, ndC ⟨k, n, s, ka, 0, kc, na, nn, nc⟩)] wr)) (fun _ _ => 0)
        case atStart => exact ⟨rfl, HC⟩
        case round =>
          clear HC
          obtain ⟨rfl, HC⟩ := hrel
          (obtain ⟨r1, f1, i1, b1, l1⟩ := St.facts1 (HC.out.pick [0] (by decide) rfl))
          go_wp2_with fail
          go_ret
          exact ⟨rfl, HC.out.below⟩
set_option maxRecDepth 100000 in
theorem find1_any (q : ByteArray) (v : Value) (t : ByteArray) (gb : Nat) (hv : v.oneCell' = true) (w : World) (hr : rowAt w gb = #[.string t]) (hi : isRow w gb = true) (hl : gb < w.heap.size) : Calls Try.prog 37 #[.agg (pairC q v), .pointer (some ⟨gb, 0, none⟩)] w fun e w' => e = .returned (.bool (decide (q = t))) ∧ Below w.heap.size w w' := by
  have HC := Lib.hid ((St.nil w).pushA (pairC q v) 60 rfl)
  have r0 : rowAt (w.alloc (.cells (pairC q v) 60)) gb = #[.string t] := (below_rowAt HC.out.below hl).trans hr
  have i0 : isRow (w.alloc (.cells (pairC q v) 60)) gb = true := (below_isRow HC.out.below hl).trans hi
  have hc0 : (w.alloc (.cells (pairC q v) 60)).cell? ⟨gb, 0, none⟩ = some (.string t) := by rw [cell_row gb 0 i0, r0]; rfl
  have hvc := cells_one hv
  clear hr hi r0 i0
  by_cases he : q = t
  · subst he
    have s1 := text_same q
    rw [decide_eq_true rfl]
    go_enter Try.func37, Try.ntmps37
    (obtain ⟨r1, f1, i1, b1, l1⟩ := St.facts1 (HC.out.pick [0] (by decide) rfl))
    go_wp2_with fail
    go_ret
    exact ⟨rfl, HC.out.below⟩
  · have s1 := text_ne he
    rw [decide_eq_false he]
    clear he
    go_enter Try.func37, Try.ntmps37
    (obtain ⟨r1, f1, i1, b1, l1⟩ := St.facts1 (HC.out.pick [0] (by decide) rfl))
    go_wp2_with fail
    go_ret
    exact ⟨rfl, HC.out.below⟩
set_option maxRecDepth 100000 in
set_option maxHeartbeats 2000000 in
theorem indexFunc_any (kids : List Nd) (names : List ByteArray) (a : Option Addr) (c : Nat) (vs : Nat → Value) (t : ByteArray) (gb : Nat) (hk : kids.length ≤ 70) (w : World) (h3 : ElemsAt w a kids.length 2 fun i => pairC (nameOf names i) (vs i)) (h1 : ∀ i, i < kids.length → (vs i).oneCell' = true) (hr : rowAt w gb = #[.string t]) (hi : isRow w gb = true) (hl : gb < w.heap.size) :
    Calls Try.prog 36 #[.slice a kids.length c, .func (.func 37) #[] #[.pointer (some ⟨gb, 0, none⟩)]] w fun e w' => e = .returned (.int .i64 (fInt (findI (nameOf names) t 0 kids.length))) ∧ Below w.heap.size w w' := by
  have HC := Lib.hid (St.nil w)
  obtain ⟨kl, hkl⟩ : ∃ kl, kids.length = kl := ⟨_, rfl⟩
  rw [hkl] at h3 hk ⊢
  obtain ⟨R, hR⟩ : ∃ R, findI (nameOf names) t 0 kl = R := ⟨_, rfl⟩
  rw [hR]
  have HR := Lib.hid hR
  have H3 := Lib.hid h3
  have H1 := Lib.hid (show ∀ i, i < kl → (vs i).oneCell' = true from by rw [← hkl]; exact h1)
  have HB := Lib.hid (And.intro hr (And.intro hi hl))
  have k70 : (kl : Int) ≤ 70 := by omega
  clear hR h3 h1 hr hi hl hkl
  go_enter Try.func36, Try.ntmps36
  go_wp2_with fail
  go_loopw [8] (fun i wr => ∃ j : Nat, j ≤ kl ∧ i = .int .i64 (j : Int) ∧ Hid (findI (nameOf names) t j (kl - j) = R) ∧ Hid (St w [] wr)) (fun i _ => kl - (intOf i).toNat)
  case atStart => exact ⟨0, by omega, rfl, HR, HC⟩
  case round =>
    clear HC HR
    obtain ⟨j, hj, rfl, HR, HC⟩ := hrel
    by_cases hlt : j < kl
    · have d6 : (j : Int) < (kl : Int) := by omega
      obtain ⟨ad, rfl⟩ := H3.out.some j hlt
      have hld := ((H3.out.call HC.out.below (Nat.le_refl _)).at j hlt).pair
      obtain ⟨u, hu⟩ : ∃ u, kl - j = u + 1 := ⟨kl - j - 1, by omega⟩
      have hR := HR.out
      rw [hu] at hR
      unfold findI at hR
      have HU := Lib.hid hu
      have hon := H1.out j hlt
      obtain ⟨q, hq⟩ : ∃ q, nameOf names j = q := ⟨_, rfl⟩
      rw [hq] at hld hR
      generalize vs j = v at hld hon
      have KF := Lib.hid (find1_any q v t gb hon wr ((below_rowAt HC.out.below HB.out.2.2).trans HB.out.1) ((below_isRow HC.out.below HB.out.2.2).trans HB.out.2.1) (Nat.lt_of_lt_of_le HB.out.2.2 HC.out.below.size))
      clear hu hq
      by_cases he : q = t
      · rw [if_pos he] at hR
        rw [decide_eq_true he] at KF
        subst hR
        clear HR he
        go_wp2_with fail
        refine KF.out.mono ?_; rintro r w2 ⟨rfl, hw⟩
        have HC := Lib.hid (HC.out.call hw)
        clear hw hld
        go_wp2_with fail
        go_ret
        exact ⟨rfl, HC.out.below⟩
      · rw [if_neg he] at hR
        rw [decide_eq_false he] at KF
        have HR2 := Lib.hid (show findI (nameOf names) t (j + 1) (kl - (j + 1)) = R by rw [show kl - (j + 1) = u by have := HU.out; omega]; exact hR)
        clear HR hR he
        go_wp2_with fail
        refine KF.out.mono ?_; rintro r w2 ⟨rfl, hw⟩
        have HC := Lib.hid (HC.out.call hw)
        clear hw hld
        go_wp2_with fail
        go_roundw
        case rel => exact ⟨j + 1, by omega, by go_num, HR2, HC⟩
        case measure => simp [intOf]; omega
    · obtain rfl : j = kl := by omega
      have hR := HR.out
      rw [Nat.sub_self] at hR
      unfold findI at hR
      subst hR
      clear HR
      go_wp2_with fail
      go_ret
      exact ⟨rfl, HC.out.below⟩
/-- what Find tells -/
inductive FoundR (w : World) (x : Nd) (u : Value) (b : Bool) (w' : World) : Option Nat → Prop
  | none (hu : u = .nilIface) (hb : b = false) (hw : Below w.heap.size w w') : FoundR w x u b w' none
  | some (i : Nat) (hi : i < x.kids.length) (hu : AnyAt w' u x.kids[i]) (hb : b = true) (hw : Below w.heap.size w w') : FoundR w x u b w' (some i)
def Found (w : World) (x : Nd) (R : Option Nat) (e : Ending) (w' : World) : Prop := ∃ u b, e = .returned (.tuple #[u, .bool b]) ∧ FoundR w x u b w' R
set_option maxRecDepth 100000 in
set_option maxHeartbeats 2000000 in
theorem find10_any (x : Nd) (v : Value) (t : ByteArray) (w : World) (h : AnyAt w v x) (hk : x.kids.length ≤ 70) : Calls Try.prog 21 #[v, .string t] w (Found w x (ndFind x t)) := by
  have HC := Lib.hid ((St.nil w).pushA #[.string t] 9 rfl)
  have HC0 := HC
  cases h with
  | nil n s kids names =>
    rw [show ndFind (.mk 0 n s kids names) t = none from rfl]
    clear hk HC0
    (go_enter Try.func21, Try.ntmps21
     go_wp2_with fail
     go_ret2
     exact ⟨.nilIface, false, rfl, .none rfl rfl HC.out.below⟩)
  | bool n s kids names =>
    rw [show ndFind (.mk 1 n s kids names) t = none from rfl]
    generalize decide (n = 1) = b0
    clear hk HC0
    (go_enter Try.func21, Try.ntmps21
     go_wp2_with fail
     go_ret2
     exact ⟨.nilIface, false, rfl, .none rfl rfl HC.out.below⟩)
  | num n s kids names hn =>
    rw [show ndFind (.mk 2 n s kids names) t = none from rfl]
    clear hk HC0
    (go_enter Try.func21, Try.ntmps21
     go_wp2_with fail
     go_ret2
     exact ⟨.nilIface, false, rfl, .none rfl rfl HC.out.below⟩)
  | text n s kids names =>
    rw [show ndFind (.mk 3 n s kids names) t = none from rfl]
    clear hk HC0
    (go_enter Try.func21, Try.ntmps21
     go_wp2_with fail
     go_ret2
     exact ⟨.nilIface, false, rfl, .none rfl rfl HC.out.below⟩)
  | list n s kids names a c vs h3 h4 =>
    rw [show ndFind (.mk 4 n s kids names) t = none from rfl]
    clear hk HC0 h3 h4
    (go_enter Try.func21, Try.ntmps21
     go_wp2_with fail
     go_ret2
     exact ⟨.nilIface, false, rfl, .none rfl rfl HC.out.below⟩)
  | odd k n s kids names hk6 h2 =>
    rw [show ndFind (.mk k n s kids names) t = none from if_neg (by show ¬ k = 5; omega)]
    clear hk HC0 hk6
    (go_enter Try.func21, Try.ntmps21
     go_wp2_with fail
     go_ret2
     exact ⟨.nilIface, false, rfl, .none rfl rfl HC.out.below⟩)
  | pairs n s kids names a c vs h3 h4 =>
    rw [show ndFind (.mk 5 n s kids names) t = findI (nameOf names) t 0 kids.length from rfl]
    have hk : kids.length ≤ 70 := hk
    obtain ⟨⟨_, b2⟩, r1, _, i1⟩ := HC.out.rows (w.heap.size, #[.string t]) (.head _)
    have KI := Lib.hid (indexFunc_any kids names a c vs t w.heap.size hk _ (h3.call HC.out.below (Nat.le_refl _)) (fun i hi => (h4 i hi).one) r1 i1 b2)
    obtain ⟨R, hR⟩ : ∃ R, findI (nameOf names) t 0 kids.length = R := ⟨_, rfl⟩
    rw [hR] at KI ⊢
    have HR := Lib.hid hR
    have H3 := Lib.hid h3
    have H4 := Lib.hid h4
    clear h3 h4 hR b2 r1 i1 HC0
    obtain ⟨kl, hkl⟩ : ∃ kl, kids.length = kl := ⟨_, rfl⟩
    have HK := Lib.hid hkl
    rw [hkl] at KI ⊢
    rw [hkl] at hk
    have k70 : (kl : Int) ≤ 70 := by omega
    cases R with
    | none =>
      rw [show fInt none = -1 from rfl] at KI
      clear hkl
      go_enter Try.func21, Try.ntmps21
      go_wp2_with fail
      refine KI.out.mono ?_; rintro r w2 ⟨rfl, hw⟩
      have HC := Lib.hid (HC.out.call hw)
      clear hw KI
      go_wp2_with fail
      go_ret2
      exact ⟨.nilIface, false, rfl, .none rfl rfl HC.out.below⟩
    | some j =>
      rw [show fInt (some j) = (j : Int) from rfl] at KI
      have hj : j < kl := by have := findI_lt HR.out; omega
      have d1 : (j : Int) < (kl : Int) := by omega
      clear hkl
      go_enter Try.func21, Try.ntmps21
      go_wp2_with fail
      refine KI.out.mono ?_; rintro r w2 ⟨rfl, hw⟩
      have HC := Lib.hid (HC.out.call hw)
      clear hw KI
      have H3' := H3.out
      rw [HK.out] at H3'
      obtain ⟨ad, rfl⟩ := H3'.some j hj
      have hl := ((H3'.call HC.out.below (Nat.le_refl _)).at j hj)
      have k1 := hl.2.1
      have k2 := hl.2.2 1 (by omega)
      rw [pairC_get1] at k2
      have hjk : j < kids.length := by rw [HK.out]; exact hj
      have HA := Lib.hid ((H4.out j hjk).call HC.out.below (Nat.le_refl _))
      generalize vs j = u at k2 HA
      clear hl H3'
      go_wp2_with fail
      go_ret2
      exact ⟨u, true, rfl, .some j hjk HA.out rfl HC.out.below⟩
end Go.Proofs.Ytinlcpenllfcpaa
