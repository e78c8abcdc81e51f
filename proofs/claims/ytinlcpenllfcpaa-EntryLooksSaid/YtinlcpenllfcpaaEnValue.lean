/- The program's taker: value; Take. -/
import Derived.Test.YtinlcpenllfcpaaEnNamed
namespace Go.Proofs.Ytinlcpenllfcpaa
open Go.RowKit
attribute [local go_sem] B_xor B_or B_and
attribute [local go_sem] blk_set blk_size blk_get blk_getE upd_same oneCells_blk paste_blk cut_blk szOf
attribute [local go_sem high] paste_all cut_head
attribute [local go_sem] rowAt_alloc rowAt_drew rowAt_drewN isRow_alloc isRow_drew isRow_drewN freeRow_alloc freeRow_end freeRow_drew freeRow_drewN
attribute [local go_sem] setRow_alloc setRow_drew setRow_drewN setCell_drewN alloc_drewN rowAt_put isRow_setRow freeRow_put
attribute [local go_sem ↓] loadS_in storeS_in indexS_in copyS_in
attribute [local go_sem] loadS_row loadS_one storeS_row storeS_one indexS_blk copyS_rows run_equalIn_blk same_refl arrayAt_row
attribute [local go_sem] cell_row frozen_row st_setCell st_blk_ne stepAt stepUpon
attribute [local go_sem high] run_eql_blk run_neq_blk
attribute [local go_sem ↓] convBS_in
attribute [local go_sem] convBS_row convBS_nil allBytes_blk bytesOf_blk
attribute [local go_sem] size_sc agg_sc sc_size sc_get0 sc_get1 sc_get2 sc_getE0 sc_getE1 sc_getE2 sc_set1 sc_set2 sc_ne sc_one sc_cut sc_paste size_tk agg_tk

theorem itR_deep (s : ByteArray) (f : Nat → PR) (pr : Bool) (p d : Nat) (h : 4 ≤ d) : itR s f pr p d = .error 24 := by
  unfold itR countR
  rw [if_pos h]
  rfl
theorem list_eq (s : ByteArray) (g : Nat → PR) (k p d : Nat) (hd : d < 4) : (match takeN s p 1 with
    | .error e => .error e
    | .ok (c, p2) => if 64 < c then .error 5 else match itemsA s g (decide (k = 6)) c [] p2 with
      | .error e => .error e
      | .ok (l, p3) => .ok (ofItems (k - 1) l, p3) : PR) = finish (k - 1) (itR s g (decide (k = 6)) p d) := by
  unfold itR countR takeN
  rw [if_neg (show ¬ 4 ≤ d by omega)]
  by_cases h1 : p + 1 ≤ s.size
  · rw [if_pos h1, if_pos h1]
    dsimp only
    by_cases h2 : 64 < numAt s p 1
    · rw [if_pos h2, if_pos h2, if_pos (by decide)]; rfl
    · rw [if_neg h2, if_neg h2, if_neg (by decide)]
      unfold finish
      cases itemsA s g (decide (k = 6)) (numAt s p 1) [] (p + 1) <;> rfl
  · rw [if_neg h1, if_neg h1, if_pos (show (3 : Nat) ≠ 0 by decide)]; rfl
/-- what stands behind the first byte -/
def restR (s : ByteArray) (f : Option (Nat → PR)) (k p1 : Nat) : PR :=
  if 6 < k then .error 22 else if k = 0 then .ok (.zero, p1) else if k < 3 then .ok (.mk 1 (k - 1) noT [] [], p1)
  else if k = 3 then match takeN s p1 8 with
    | .error e => .error e
    | .ok (n, p2) => .ok (.mk 2 n noT [] [], p2)
  else if k = 4 then match takeR s p1 with
    | .error e => .error e
    | .ok (r, p2) => .ok (.mk 3 0 r [] [], p2)
  else match f with
    | none => .error 24
    | some g => match takeN s p1 1 with
      | .error e => .error e
      | .ok (c, p2) => if 64 < c then .error 5 else match itemsA s g (decide (k = 6)) c [] p2 with
        | .error e => .error e
        | .ok (l, p3) => .ok (ofItems (k - 1) l, p3)
theorem oneWith_eq (s : ByteArray) (f : Option (Nat → PR)) (p : Nat) : oneWith s f p = if p + 1 ≤ s.size then restR s f (numAt s p 1) (p + 1) else .error 3 := by
  unfold oneWith takeN restR
  by_cases h : p + 1 ≤ s.size
  · rw [if_pos h, if_pos h]; rfl
  · rw [if_neg h, if_neg h]
theorem restR_list (s : ByteArray) (f : Option (Nat → PR)) (k p d : Nat) (hk : k = 5 ∨ k = 6) (g : Nat → PR) (hf : (f = none ∧ 4 ≤ d) ∨ (f = some g ∧ d < 4)) : restR s f k p = finish (k - 1) (itR s g (decide (k = 6)) p d) := by
  unfold restR
  rw [if_neg (by omega), if_neg (by omega), if_neg (by omega), if_neg (by omega), if_neg (by omega)]
  rcases hf with ⟨rfl, h⟩ | ⟨rfl, h⟩
  · rw [itR_deep _ _ _ _ _ h]; rfl
  · exact list_eq s g k p d h
set_option maxRecDepth 100000 in
set_option maxHeartbeats 4000000 in
theorem value_step (gt : Nat) (s : ByteArray) (hs : s.size < 2 ^ 30) (f : Option (Nat → PR)) (g : Nat → PR) (d : Nat) (hd : d ≤ 10) (hf : (f = none ∧ 4 ≤ d) ∨ (f = some g ∧ d < 4)) (w0 : World)
    (IH : d < 4 → ∀ p w L, p ≤ s.size → St w0 ((gt, sc s p 0) :: L) w → Calls Try.prog 32 #[.pointer (some ⟨gt, 0, none⟩), .int .i64 ((d : Int) + 1)] w (Took w0 gt s L (g p)))
    (p : Nat) (w : World) (L : List (Nat × Array Value)) (hp : p ≤ s.size) (hC : St w0 ((gt, sc s p 0) :: L) w) :
    Calls Try.prog 32 #[.pointer (some ⟨gt, 0, none⟩), .int .i64 (d : Int)] w (Took w0 gt s L (oneWith s f p)) := by
  have HC := Lib.hid hC
  have K := Lib.hid (fun w (h : St w0 ((gt, sc s p 0) :: L) w) => num_tk gt s p 0 1 (by omega) (by omega) hp (by omega) w0 w L h)
  rw [oneWith_eq]
  clear hC
  by_cases hn : p + 1 ≤ s.size
  · rw [if_pos hn]
    have e1 : tk s p 0 1 = (numAt s p 1, p + 1, 0) := by unfold tk; rw [if_neg (fun h => h rfl), if_pos hn]
    have hk := numAt1_lt s p
    rw [e1] at K
    obtain ⟨k, hke⟩ : ∃ k, numAt s p 1 = k := ⟨_, rfl⟩
    obtain ⟨q, hq⟩ : ∃ q, p + 1 = q := ⟨_, rfl⟩
    rw [hke] at K hk ⊢
    rw [hq] at K hn ⊢
    clear e1 hke hq hp
    have HQ := Lib.hid hn
    by_cases c6 : 6 < k
    · have e : restR s f k q = .error 22 := by unfold restR; rw [if_pos c6]
      rw [e]
      have d0 : ((k : Int) == 0) = false := by rw [beq_eq_false_iff_ne]; omega
      have d1 : ((k : Int) == 1) = false := by rw [beq_eq_false_iff_ne]; omega
      have d2 : ((k : Int) == 2) = false := by rw [beq_eq_false_iff_ne]; omega
      have d3 : ((k : Int) == 3) = false := by rw [beq_eq_false_iff_ne]; omega
      have d4 : ((k : Int) == 4) = false := by rw [beq_eq_false_iff_ne]; omega
      have d5 : ((k : Int) == 5) = false := by rw [beq_eq_false_iff_ne]; omega
      have d6 : ((k : Int) == 6) = false := by rw [beq_eq_false_iff_ne]; omega
      clear e IH hf hn
      (go_enter Try.func32, Try.ntmps32
       go_wp2_with fail
       refine (K.out _ HC.out).mono ?_; rintro r0 w1 ⟨rfl, hw⟩
       have HC := Lib.hid hw
       clear hw K
       (obtain ⟨r1, f1, i1, b1, l1⟩ := St.facts1 (HC.out.pick [0] (by decide) rfl))
       go_wp2_with fail)
      (clear r1 f1 i1 b1 l1)
      refine (fail_tk gt s q 0 22 w0 _ L HC.out).mono ?_; rintro r0 w2 ⟨rfl, hw⟩
      have HC := Lib.hid (show St w0 ((gt, sc s q 22) :: L) w2 from hw)
      clear hw
      go_wp2_with fail
      go_ret
      exact ⟨.nilIface, rfl, .bad 22 q (by decide) HQ.out rfl HC.out⟩
    · obtain rfl | rfl | rfl | rfl | rfl | rfl | rfl : k = 0 ∨ k = 1 ∨ k = 2 ∨ k = 3 ∨ k = 4 ∨ k = 5 ∨ k = 6 := by omega
      · have e : restR s f 0 q = .ok (.zero, q) := rfl
        rw [e]
        clear e IH hf hn c6
        (go_enter Try.func32, Try.ntmps32
         go_wp2_with fail
         refine (K.out _ HC.out).mono ?_; rintro r0 w1 ⟨rfl, hw⟩
         have HC := Lib.hid hw
         clear hw K
         (obtain ⟨r1, f1, i1, b1, l1⟩ := St.facts1 (HC.out.pick [0] (by decide) rfl))
         go_wp2_with fail)
        go_ret
        exact ⟨.nilIface, rfl, .ok .zero q [] (.nil _ _ _ _) HQ.out HC.out⟩
      · have e : restR s f 1 q = .ok (.mk 1 0 noT [] [], q) := rfl
        rw [e]
        clear e IH hf hn c6
        (go_enter Try.func32, Try.ntmps32
         go_wp2_with fail
         refine (K.out _ HC.out).mono ?_; rintro r0 w1 ⟨rfl, hw⟩
         have HC := Lib.hid hw
         clear hw K
         (obtain ⟨r1, f1, i1, b1, l1⟩ := St.facts1 (HC.out.pick [0] (by decide) rfl))
         go_wp2_with fail)
        go_ret
        exact ⟨boolIf false, rfl, .ok (.mk 1 0 noT [] []) q [] (.bool 0 _ _ _) HQ.out HC.out⟩
      · have e : restR s f 2 q = .ok (.mk 1 1 noT [] [], q) := rfl
        rw [e]
        clear e IH hf hn c6
        (go_enter Try.func32, Try.ntmps32
         go_wp2_with fail
         refine (K.out _ HC.out).mono ?_; rintro r0 w1 ⟨rfl, hw⟩
         have HC := Lib.hid hw
         clear hw K
         (obtain ⟨r1, f1, i1, b1, l1⟩ := St.facts1 (HC.out.pick [0] (by decide) rfl))
         go_wp2_with fail)
        go_ret
        exact ⟨boolIf true, rfl, .ok (.mk 1 1 noT [] []) q [] (.bool 1 _ _ _) HQ.out HC.out⟩
      · have K2 := Lib.hid (fun w (h : St w0 ((gt, sc s q 0) :: L) w) => num_tk gt s q 0 8 (by omega) (by omega) hn (by omega) w0 w L h)
        by_cases h8 : q + 8 ≤ s.size
        · have e : restR s f 3 q = .ok (.mk 2 (numAt s q 8) noT [] [], q + 8) := by
            show (match takeN s q 8 with | .error e => .error e | .ok (n, p2) => .ok (.mk 2 n noT [] [], p2) : PR) = _
            unfold takeN; rw [if_pos h8]
          have e2 : tk s q 0 8 = (numAt s q 8, q + 8, 0) := by unfold tk; rw [if_neg (fun h => h rfl), if_pos h8]
          rw [e]
          rw [e2] at K2
          have hN : numAt s q 8 < 18446744073709551616 := numTo_lt _ 8
          have HB := Lib.hid (And.intro hN h8)
          generalize numAt s q 8 = n at K2 HB
          clear e e2 IH hf hn c6 hN h8
          (go_enter Try.func32, Try.ntmps32
           go_wp2_with fail
           refine (K.out _ HC.out).mono ?_; rintro r0 w1 ⟨rfl, hw⟩
           have HC := Lib.hid hw
           clear hw K
           (obtain ⟨r1, f1, i1, b1, l1⟩ := St.facts1 (HC.out.pick [0] (by decide) rfl))
           go_wp2_with fail)
          (clear r1 f1 i1 b1 l1)
          refine (K2.out _ HC.out).mono ?_; rintro r0 w2 ⟨rfl, hw⟩
          have HC := Lib.hid hw
          clear hw K2
          go_wp2_with fail
          go_ret
          exact ⟨.iface 22 (.int .u64 (n : Int)), rfl, .ok (.mk 2 n noT [] []) (q + 8) [] (.num _ _ _ _ HB.out.1) HB.out.2 HC.out⟩
        · have e : restR s f 3 q = .error 3 := by
            show (match takeN s q 8 with | .error e => .error e | .ok (n, p2) => .ok (.mk 2 n noT [] [], p2) : PR) = _
            unfold takeN; rw [if_neg h8]
          have e2 : tk s q 0 8 = (0, q, 3) := by unfold tk; rw [if_neg (fun h => h rfl), if_neg h8]
          rw [e]
          rw [e2] at K2
          clear e e2 IH hf hn c6 h8
          (go_enter Try.func32, Try.ntmps32
           go_wp2_with fail
           refine (K.out _ HC.out).mono ?_; rintro r0 w1 ⟨rfl, hw⟩
           have HC := Lib.hid hw
           clear hw K
           (obtain ⟨r1, f1, i1, b1, l1⟩ := St.facts1 (HC.out.pick [0] (by decide) rfl))
           go_wp2_with fail)
          (clear r1 f1 i1 b1 l1)
          refine (K2.out _ HC.out).mono ?_; rintro r0 w2 ⟨rfl, hw⟩
          have HC := Lib.hid hw
          clear hw K2
          go_wp2_with fail
          go_ret
          exact ⟨.iface 22 (.int .u64 0), rfl, .bad 3 q (by decide) HQ.out rfl HC.out⟩
      · have K2 := Lib.hid (fun w (h : St w0 ((gt, sc s q 0) :: L) w) => row_tk gt s q hn (by omega) w0 w L h)
        have e : restR s f 4 q = (match takeR s q with | .error e => .error e | .ok (r, p2) => .ok (.mk 3 0 r [] [], p2) : PR) := rfl
        obtain ⟨Y, hY⟩ : ∃ Y, restR s f 4 q = Y := ⟨_, rfl⟩
        rw [hY]
        have HY := Lib.hid (e.symm.trans hY)
        clear hY
        obtain ⟨⟨r, q1, e1⟩, hrow⟩ : ∃ x, tkRow s q = x := ⟨_, rfl⟩
        rw [hrow] at K2
        have HW := Lib.hid (tkRow_cases hrow)
        clear e IH hf hn c6 hrow
        (go_enter Try.func32, Try.ntmps32
         go_wp2_with fail
         refine (K.out _ HC.out).mono ?_; rintro r0 w1 ⟨rfl, hw⟩
         have HC := Lib.hid hw
         clear hw K
         (obtain ⟨r1, f1, i1, b1, l1⟩ := St.facts1 (HC.out.pick [0] (by decide) rfl))
         go_wp2_with fail)
        (clear r1 f1 i1 b1 l1)
        refine (K2.out _ HC.out).mono ?_; rintro r0 w2 ⟨rfl, hw⟩
        have HC := Lib.hid hw
        clear hw K2
        go_wp2_with fail
        go_ret
        refine ⟨.iface 9 (.string r), rfl, ?_⟩
        rw [← HY.out]
        rcases HW.out with ⟨rfl, ht⟩ | ⟨he, hqq, ht⟩
        · rw [ht]
          exact .ok (.mk 3 0 r [] []) q1 [] (.text _ _ _ _) (takeR_le ht) HC.out
        · rw [ht]
          exact .bad e1 q1 he (by rw [hqq]; exact HQ.out) rfl HC.out
      · have e := restR_list s f 5 q d (.inl rfl) g hf
        rw [e, show decide (5 = 6) = false from rfl]
        have KI := Lib.hid (fun w (h : St w0 ((gt, sc s q 0) :: L) w) => items_tk gt s g q d hd hn hs w0 w L h IH)
        clear e IH hf hn c6
        (go_enter Try.func32, Try.ntmps32
         go_wp2_with fail
         refine (K.out _ HC.out).mono ?_; rintro r0 w1 ⟨rfl, hw⟩
         have HC := Lib.hid hw
         clear hw K
         (obtain ⟨r1, f1, i1, b1, l1⟩ := St.facts1 (HC.out.pick [0] (by decide) rfl))
         go_wp2_with fail)
        (clear r1 f1 i1 b1 l1)
        refine (KI.out _ HC.out).mono ?_; rintro r0 w2 ⟨v, rfl, ht⟩
        have HT := Lib.hid ht
        clear ht KI
        go_wp2_with fail
        go_ret
        exact ⟨v, rfl, HT.out⟩
      · have e := restR_list s f 6 q d (.inr rfl) g hf
        rw [e, show decide (6 = 6) = true from rfl]
        have KI := Lib.hid (fun w (h : St w0 ((gt, sc s q 0) :: L) w) => named_tk gt s g q d hd hn hs w0 w L h IH)
        clear e IH hf hn c6
        (go_enter Try.func32, Try.ntmps32
         go_wp2_with fail
         refine (K.out _ HC.out).mono ?_; rintro r0 w1 ⟨rfl, hw⟩
         have HC := Lib.hid hw
         clear hw K
         (obtain ⟨r1, f1, i1, b1, l1⟩ := St.facts1 (HC.out.pick [0] (by decide) rfl))
         go_wp2_with fail)
        (clear r1 f1 i1 b1 l1)
        refine (KI.out _ HC.out).mono ?_; rintro r0 w2 ⟨v, rfl, ht⟩
        have HT := Lib.hid ht
        clear ht KI
        go_wp2_with fail
        go_ret
        exact ⟨v, rfl, HT.out⟩
  · rw [if_neg hn]
    have e1 : tk s p 0 1 = (0, p, 3) := by unfold tk; rw [if_neg (fun h => h rfl), if_neg hn]
    rw [e1] at K
    have HQ := Lib.hid hp
    clear e1 IH hf hn
    (go_enter Try.func32, Try.ntmps32
     go_wp2_with fail
     refine (K.out _ HC.out).mono ?_; rintro r0 w1 ⟨rfl, hw⟩
     have HC := Lib.hid hw
     clear hw K
     (obtain ⟨r1, f1, i1, b1, l1⟩ := St.facts1 (HC.out.pick [0] (by decide) rfl))
     go_wp2_with fail)
    go_ret
    exact ⟨.nilIface, rfl, .bad 3 p (by decide) HQ.out rfl HC.out⟩
theorem value_tk (gt : Nat) (s : ByteArray) (hs : s.size < 2 ^ 30) (w0 : World) : ∀ (r d : Nat), d + r = 4 → ∀ (p : Nat) (w : World) (L : List (Nat × Array Value)), p ≤ s.size → St w0 ((gt, sc s p 0) :: L) w →
    Calls Try.prog 32 #[.pointer (some ⟨gt, 0, none⟩), .int .i64 (d : Int)] w (Took w0 gt s L (oneP s r p))
  | 0, d, h, p, w, L, hp, hC => value_step gt s hs none (fun _ => .error 0) d (by omega) (.inl ⟨rfl, by omega⟩) w0 (fun h4 => absurd h4 (by omega)) p w L hp hC
  | r + 1, d, h, p, w, L, hp, hC => value_step gt s hs (some (oneP s r)) (oneP s r) d (by omega) (.inr ⟨rfl, by omega⟩) w0 (fun _ p w L hp hC => by
      have k := value_tk gt s hs w0 r (d + 1) (by omega) p w L hp hC
      rw [show ((d + 1 : Nat) : Int) = (d : Int) + 1 by omega] at k
      exact k) p w L hp hC
def endE (s : ByteArray) (q e : Nat) : Nat := if e ≠ 0 then e else if q < s.size then 4 else 0
set_option maxRecDepth 100000 in
theorem scanEnd_any (s : ByteArray) (q e : Nat) (hq : q ≤ s.size) (hs : s.size < 2 ^ 40) (w : World) : Calls Try.prog 33 #[.agg (sc s q e)] w fun r w' => r = .returned (.int .i64 ((endE s q e : Nat) : Int)) ∧ Below w.heap.size w w' := by
  have HC := Lib.hid ((St.nil w).pushA (sc s q e) 70 rfl)
  unfold endE
  by_cases he : e = 0
  · subst he
    rw [if_neg (fun h => h rfl)]
    obtain ⟨l, hl⟩ : ∃ l, q + l = s.size := ⟨s.size - q, by omega⟩
    have KS := Lib.hid (stands_any s q 0 hq)
    have KL := Lib.hid (left_any s q 0 l hl hs)
    by_cases h : q < s.size
    · rw [if_pos h]
      have d1 : (0 : Int) < (l : Int) := by omega
      have d2 : 0 < l := by omega
      clear hq hs h hl
      go_enter Try.func33, Try.ntmps33
      (obtain ⟨r1, f1, i1, b1, l1⟩ := St.facts1 (HC.out.pick [0] (by decide) rfl))
      go_wp2_with fail
      (clear r1 f1 i1 b1 l1)
      refine (KS.out _).mono ?_; rintro r w2 ⟨rfl, hw⟩
      have HC := Lib.hid (HC.out.call hw)
      clear hw
      (obtain ⟨r1, f1, i1, b1, l1⟩ := St.facts1 (HC.out.pick [0] (by decide) rfl))
      go_wp2_with fail
      (clear r1 f1 i1 b1 l1)
      refine (KL.out _).mono ?_; rintro r w3 ⟨rfl, hw⟩
      have HC := Lib.hid (HC.out.call hw)
      clear hw
      go_wp2_with fail
      go_ret
      exact ⟨rfl, HC.out.below⟩
    · rw [if_neg h]
      obtain rfl : l = 0 := by omega
      clear hq hs h hl
      go_enter Try.func33, Try.ntmps33
      (obtain ⟨r1, f1, i1, b1, l1⟩ := St.facts1 (HC.out.pick [0] (by decide) rfl))
      go_wp2_with fail
      (clear r1 f1 i1 b1 l1)
      refine (KS.out _).mono ?_; rintro r w2 ⟨rfl, hw⟩
      have HC := Lib.hid (HC.out.call hw)
      clear hw
      (obtain ⟨r1, f1, i1, b1, l1⟩ := St.facts1 (HC.out.pick [0] (by decide) rfl))
      go_wp2_with fail
      (clear r1 f1 i1 b1 l1)
      refine (KL.out _).mono ?_; rintro r w3 ⟨rfl, hw⟩
      have HC := Lib.hid (HC.out.call hw)
      clear hw
      go_wp2_with fail
      go_ret
      exact ⟨rfl, HC.out.below⟩
  · rw [if_pos he]
    have d1 : ((e : Int) != 0) = true := by rw [bne_iff_ne]; omega
    clear hq hs he
    go_enter Try.func33, Try.ntmps33
    (obtain ⟨r1, f1, i1, b1, l1⟩ := St.facts1 (HC.out.pick [0] (by decide) rfl))
    go_wp2_with fail
    go_ret
    exact ⟨rfl, HC.out.below⟩
/-- what Take tells -/
inductive TakenR (w : World) (v : Value) (E : Nat) (w' : World) : Except Nat Nd → Prop
  | bad (d : Nat) (hd : d ≠ 0) (hv : v = .nilIface) (hE : E = d) (hb : Below w.heap.size w w') : TakenR w v E w' (.error d)
  | ok (x : Nd) (L : List (Nat × Array Value)) (hx : AnyIn L v x) (hE : E = 0) (hC : St w L w') : TakenR w v E w' (.ok x)
def Taken (w : World) (R : Except Nat Nd) (e : Ending) (w' : World) : Prop := ∃ v E, e = .returned (.tuple #[v, .int .i64 ((E : Nat) : Int)]) ∧ TakenR w v E w' R
set_option maxRecDepth 100000 in
set_option maxHeartbeats 2000000 in
theorem take_any10 (s : ByteArray) (hs : s.size < 2 ^ 30) (w : World) : Calls Try.prog 15 #[.string s] w (Taken w (ndTake s)) := by
  have hz := scan_zero
  have hz2 : (sc ⟨#[]⟩ 0 0).setIfInBounds 0 (.string s) = sc s 0 0 := by simp [sc]
  have HC := Lib.hid ((St.nil w).push (sc s 0 0) 72)
  have KV := Lib.hid (fun w' (h : St w ((w.heap.size, sc s 0 0) :: []) w') => value_tk w.heap.size s hs w 4 0 rfl 0 w' [] (Nat.zero_le _) h)
  have KE := Lib.hid (fun q e (h : q ≤ s.size) => scanEnd_any s q e h (by omega))
  obtain ⟨R, hR⟩ : ∃ R, ndTake s = R := ⟨_, rfl⟩
  rw [hR]
  unfold ndTake at hR
  obtain ⟨Y, hY⟩ : ∃ Y, oneP s 4 0 = Y := ⟨_, rfl⟩
  rw [hY] at KV hR
  have HR := Lib.hid hR
  clear hs hR hY
  go_enter Try.func15, Try.ntmps15
  go_wp2_with fail
  refine (KV.out _ HC.out).mono ?_; rintro r w2 ⟨v, rfl, ht⟩
  have HT := Lib.hid ht
  clear ht KV
  cases HT.out with
  | bad d p hd hp hv hC =>
    have HC := Lib.hid hC
    have K := Lib.hid (KE.out p d hp)
    rw [show endE s p d = d from if_pos hd] at K
    have HR := Lib.hid (show Except.error d = R from HR.out)
    have HD := Lib.hid hd
    have d1 : ((d : Int) != 0) = true := by rw [bne_iff_ne]; omega
    clear hC hd hp hv HT
    (obtain ⟨r1, f1, i1, b1, l1⟩ := St.facts1 (HC.out.pick [0] (by decide) rfl))
    go_wp2_with fail
    (clear r1 f1 i1 b1 l1)
    refine (K.out _).mono ?_; rintro r w3 ⟨rfl, hw⟩
    have HC := Lib.hid (HC.out.call hw)
    clear hw
    go_wp2_with fail
    go_ret2
    refine ⟨.nilIface, d, rfl, ?_⟩
    rw [← HR.out]
    exact .bad d HD.out rfl rfl HC.out.below
  | ok x q L' hx hq hC =>
    have HC := Lib.hid hC
    have K := Lib.hid (KE.out q 0 hq)
    have HX := Lib.hid hx
    by_cases hl : q < s.size
    · rw [show endE s q 0 = 4 by unfold endE; rw [if_neg (fun h => h rfl), if_pos hl]] at K
      have HR := Lib.hid (show (.error 4 : Except Nat Nd) = R from by have h := HR.out; dsimp only at h; rw [if_neg (by omega)] at h; exact h)
      clear hC hx hq hl HT
      (obtain ⟨r1, f1, i1, b1, l1⟩ := St.facts1 (HC.out.pick [0] (by decide) rfl))
      go_wp2_with fail
      (clear r1 f1 i1 b1 l1)
      refine (K.out _).mono ?_; rintro r w3 ⟨rfl, hw⟩
      have HC := Lib.hid (HC.out.call hw)
      clear hw
      go_wp2_with fail
      go_ret2
      refine ⟨.nilIface, 4, rfl, ?_⟩
      rw [← HR.out]
      exact .bad 4 (by decide) rfl rfl HC.out.below
    · rw [show endE s q 0 = 0 by unfold endE; rw [if_neg (fun h => h rfl), if_neg hl]] at K
      have HR := Lib.hid (show Except.ok x = R from by have h := HR.out; dsimp only at h; rw [if_pos (by omega)] at h; exact h)
      clear hC hx hq hl HT
      (obtain ⟨r1, f1, i1, b1, l1⟩ := St.facts1 (HC.out.pick [0] (by decide) rfl))
      go_wp2_with fail
      (clear r1 f1 i1 b1 l1)
      refine (K.out _).mono ?_; rintro r w3 ⟨rfl, hw⟩
      have HC := Lib.hid (HC.out.call hw)
      clear hw
      go_wp2_with fail
      go_ret2
      refine ⟨v, 0, rfl, ?_⟩
      rw [← HR.out]
      exact .ok x (L' ++ []) (HX.out.mono fun y hy => List.mem_append.2 (.inl hy)) rfl HC.out.tail
end Go.Proofs.Ytinlcpenllfcpaa
