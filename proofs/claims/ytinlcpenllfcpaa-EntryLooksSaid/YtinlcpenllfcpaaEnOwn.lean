/- Own: the program's value of a node. -/
import Derived.Test.YtinlcpenllfcpaaEnPush
namespace Go.Proofs.Ytinlcpenllfcpaa
open Go.RowKit
attribute [local go_sem] B_xor B_or B_and
attribute [local go_sem] blk_set blk_size blk_get blk_getE upd_same oneCells_blk paste_blk cut_blk szOf
attribute [local go_sem high] paste_all cut_head
attribute [local go_sem] rowAt_alloc rowAt_drew rowAt_drewN isRow_alloc isRow_drew isRow_drewN freeRow_alloc freeRow_end freeRow_drew freeRow_drewN
attribute [local go_sem] setRow_alloc setRow_drew setRow_drewN setCell_drewN alloc_drewN rowAt_put isRow_setRow freeRow_put
attribute [local go_sem ↓] loadS_in storeS_in indexS_in copyS_in
attribute [local go_sem] loadS_row loadS_one storeS_row storeS_one indexS_blk copyS_rows run_equalIn_blk same_refl arrayAt_row
attribute [local go_sem] cell_row frozen_row st_setCell st_blk_ne stepAt stepUpon
attribute [local go_sem high] run_eql_blk run_neq_blk
attribute [local go_sem ↓] convBS_in
attribute [local go_sem] convBS_row convBS_nil allBytes_blk bytesOf_blk
attribute [local go_sem] ndC_size ndC_get0 ndC_get1 ndC_get2 ndC_get3 ndC_get4 ndC_getE0 ndC_getE1 ndC_getE2 ndC_getE3 ndC_getE4 ndC_ne ndC_one ndC_cut ndC_paste ndC_set0 ndC_set1 ndC_set2 ndC_set3 ndC_set4 size_nd agg_nd
attribute [local go_sem] pairC_size pairC_get0 pairC_get1 pairC_getE0 pairC_getE1 pairC_ne pairC_one pairC_cut pairC_paste pairC_set0 pairC_set1 size_pair agg_pair

/-- a tree that is not too much -/
inductive Small : Nd → Prop
  | mk (k n : Nat) (s : ByteArray) (kids : List Nd) (names : List ByteArray) (h1 : s.size ≤ 1000) (h2 : kids.length ≤ 70) (h3 : names.length ≤ 70) (h4 : ∀ t ∈ names, t.size ≤ 1000) (h5 : ∀ x ∈ kids, Small x) : Small (.mk k n s kids names)
mutual
def Nd.cnt : Nd → Nat
  | .mk _ _ _ kids _ => 1 + cntL kids
def cntL : List Nd → Nat
  | [] => 0
  | x :: l => x.cnt + cntL l
end
theorem small_of : ∀ (x : Nd) (d left : Nat), left ≤ 150 → ovN x d left ≤ 150 → Small x ∧ x.ht + d ≤ 8 ∧ x.cnt ≤ ovN x d left := by
  refine Nd.ind fun k n s kids names ih => ?_
  intro d left hl h
  unfold ovN at h
  by_cases c : 7 < d ∨ left < 1 ∨ 200 < s.size ∨ 70 < kids.length ∨ 70 < names.length
  · rw [if_pos c] at h; omega
  · rw [if_neg c] at h
    by_cases ca : (names.any fun t => decide (200 < t.size)) = true
    · rw [if_pos ca] at h; omega
    · rw [if_neg ca] at h
      have e : ovN (.mk k n s kids names) d left = ovL kids 1 (d + 1) left := by rw [ovN, if_neg c, if_neg ca]
      rw [e]
      have hL : ∀ (l : List Nd) (u : Nat), (∀ y ∈ l, y ∈ kids) → ovL l u (d + 1) left ≤ 150 → (∀ y ∈ l, Small y) ∧ (htL l + (d + 1) ≤ 8 ∨ l = []) ∧ u + cntL l ≤ ovL l u (d + 1) left := by
        intro l
        induction l with
        | nil => intro u _ _; exact ⟨(fun y hy => by cases hy), .inr rfl, (by unfold ovL cntL; exact Nat.le_refl _)⟩
        | cons y l ihl =>
          intro u hm hu
          unfold ovL at hu
          by_cases cc : left < u + ovN y (d + 1) (left - u)
          · rw [if_pos cc] at hu; omega
          · rw [if_neg cc] at hu
            obtain ⟨a1, a2, a3⟩ := ih y (hm y (.head _)) (d + 1) (left - u) (by omega) (by omega)
            obtain ⟨b1, b2, b3⟩ := ihl _ (fun z hz => hm z (.tail _ hz)) hu
            refine ⟨fun z hz => ?_, .inl ?_, ?_⟩
            · rcases List.mem_cons.1 hz with rfl | hz
              · exact a1
              · exact b1 z hz
            · unfold htL
              rcases b2 with b2 | rfl
              · omega
              · unfold htL; omega
            · unfold ovL cntL; rw [if_neg cc]; omega
      obtain ⟨b1, b2, b3⟩ := hL kids 1 (fun _ hy => hy) h
      refine ⟨.mk _ _ _ _ _ (by omega) (by omega) (by omega) (fun t ht => ?_) b1, ?_, by unfold Nd.cnt; exact b3⟩
      · exact Nat.le_trans (Nat.le_of_not_lt fun h2 => ca (List.any_eq_true.2 ⟨t, ht, decide_eq_true h2⟩)) (by decide)
      · unfold Nd.ht
        rcases b2 with b2 | rfl
        · omega
        · unfold htL; omega
theorem St.free {w0 w : World} {L : List (Nat × Array Value)} (h : St w0 L w) : St w0 [] w := ⟨h.below, by simp, by simp⟩
theorem St.sub {w0 w : World} {L L' : List (Nat × Array Value)} (h : St w0 L w) (hs : L'.Sublist L) : St w0 L' w :=
  h.weaken (List.Nodup.sublist (hs.map _) h.ne) fun _ hx => hs.subset hx
theorem St.joins {w0 a b : World} {L L' : List (Nat × Array Value)} (h : St w0 L a) (k : St a L' b) : St w0 (L' ++ L) b := by
  have hc := h.call k.below
  refine ⟨hc.below, ?_, ?_⟩
  · rw [List.map_append, List.nodup_append]
    refine ⟨k.ne, h.ne, fun x hx y hy e => ?_⟩
    obtain ⟨x', hx', rfl⟩ := List.mem_map.1 hx
    obtain ⟨y', hy', rfl⟩ := List.mem_map.1 hy
    have h1 := (k.rows x' hx').1.1
    have h2 := (h.rows y' hy').1.2
    omega
  · intro x hx
    rcases List.mem_append.1 hx with hx | hx
    · obtain ⟨⟨h1, h2⟩, h3⟩ := k.rows x hx
      exact ⟨⟨Nat.le_trans h.below.size h1, h2⟩, h3⟩
    · exact hc.rows x hx
theorem cells_one {v : Value} (h : v.oneCell' = true) : v.cells = #[v] := by
  cases v <;> first | rfl | cases h
theorem not_agg {v : Value} (h : v.oneCell' = true) : ∀ cs, (v = Value.agg cs) = False := fun cs => by
  simp only [eq_iff_iff, iff_false]
  rintro rfl
  cases h
theorem one_cell (v : Value) (h : v.oneCell' = true) : oneCells #[v] = true := by
  simp only [oneCells, List.all_toArray, List.all_cons, List.all_nil, h, Bool.and_true]
theorem AnyIn.more {L L2 : List (Nat × Array Value)} {vs : Nat → Value} {kids : List Nd} {j : Nat} {v : Value} (h : ∀ i (_ : i < j) (h : i < kids.length), AnyIn L (vs i) kids[i]) (hj : j < kids.length) (hv : AnyIn L2 v kids[j]) : ∀ i (_ : i < j + 1) (h : i < kids.length), AnyIn (L2 ++ L) (if i = j then v else vs i) kids[i] := fun i hi hl => by
  by_cases e : i = j
  · subst e; rw [if_pos rfl]; exact hv.mono fun x hx => List.mem_append.2 (.inl hx)
  · rw [if_neg e]; exact (h i (by omega) hl).mono fun x hx => List.mem_append.2 (.inr hx)
/-- what Own tells -/
def Owned (x : Nd) (w : World) (e : Ending) (w' : World) : Prop := ∃ v L', e = .returned v ∧ AnyIn L' v x ∧ St w L' w'
set_option maxRecDepth 100000 in
set_option maxHeartbeats 4000000 in
theorem ownC (k n : Nat) (s : ByteArray) (ka : Option Addr) (kc : Nat) (na : Option Addr) (nc : Nat) (kids : List Nd) (names : List ByteArray) (cs : Nat → NdC) (hk : k < 256) (hn : n < 18446744073709551616) (hkl : kids.length ≤ 70) (w : World)
    (h3 : ElemsAt w ka kids.length 5 fun i => ndC (cs i)) (h5 : ElemsAt w na names.length 1 fun i => #[.string (nameOf names i)])
    (IH : ∀ i (h : i < kids.length) w', Below w.heap.size w w' → Calls Try.prog 10 #[.agg (ndC (cs i))] w' (Owned kids[i] w')) :
    Calls Try.prog 10 #[.agg (ndC ⟨k, n, s, ka, kids.length, kc, na, names.length, nc⟩)] w (Owned (.mk k n s kids names) w) := by
  have HC := Lib.hid ((St.nil w).pushA (ndC ⟨k, n, s, ka, kids.length, kc, na, names.length, nc⟩) 26 rfl)
  by_cases k0 : k = 0
  · subst k0
    clear IH h3 h5
    (go_enter Try.func10, Try.ntmps10
     (obtain ⟨r1, f1, i1, b1, l1⟩ := St.facts1 (HC.out.pick [0] (by decide) rfl))
     go_wp2_with fail
     go_ret)
    exact ⟨.nilIface, [], rfl, .nil _ _ _ _, HC.out.free⟩
  · by_cases k1 : k = 1
    · subst k1
      clear IH h3 h5 k0
      by_cases n1 : n = 1
      · subst n1
        (go_enter Try.func10, Try.ntmps10
         (obtain ⟨r1, f1, i1, b1, l1⟩ := St.facts1 (HC.out.pick [0] (by decide) rfl))
         go_wp2_with fail
         go_ret)
        exact ⟨boolIf true, [], rfl, .bool 1 _ _ _, HC.out.free⟩
      · have d1 : ((n : Int) == 1) = false := by rw [beq_eq_false_iff_ne]; omega
        have e : AnyIn [] (boolIf false) (.mk 1 n s kids names) := by
          have k := AnyIn.bool (L := []) n s kids names
          rw [decide_eq_false n1] at k
          exact k
        clear n1
        (go_enter Try.func10, Try.ntmps10
         (obtain ⟨r1, f1, i1, b1, l1⟩ := St.facts1 (HC.out.pick [0] (by decide) rfl))
         go_wp2_with fail
         go_ret)
        exact ⟨boolIf false, [], rfl, e, HC.out.free⟩
    · by_cases k2 : k = 2
      · subst k2
        clear IH h3 h5 k0 k1
        (go_enter Try.func10, Try.ntmps10
         (obtain ⟨r1, f1, i1, b1, l1⟩ := St.facts1 (HC.out.pick [0] (by decide) rfl))
         go_wp2_with fail
         go_ret)
        exact ⟨_, [], rfl, .num _ _ _ _ hn, HC.out.free⟩
      · by_cases k3 : k = 3
        · subst k3
          clear IH h3 h5 k0 k1 k2
          (go_enter Try.func10, Try.ntmps10
           (obtain ⟨r1, f1, i1, b1, l1⟩ := St.facts1 (HC.out.pick [0] (by decide) rfl))
           go_wp2_with fail
           go_ret)
          exact ⟨_, [], rfl, .text _ _ _ _, HC.out.free⟩
        · obtain ⟨kl, hkl2⟩ : ∃ kl, kids.length = kl := ⟨_, rfl⟩
          obtain ⟨nl, hnl2⟩ : ∃ nl, names.length = nl := ⟨_, rfl⟩
          rw [hkl2] at h3 hkl HC
          rw [hnl2] at h5 HC
          rw [hkl2, hnl2]
          have kl70 : (kl : Int) ≤ 70 := by omega
          have HI := Lib.hid IH
          have HK := Lib.hid hkl2
          have HN := Lib.hid hnl2
          have H3 := Lib.hid h3
          have H5 := Lib.hid h5
          clear IH hkl2 hnl2 h3 h5
          by_cases k4 : k = 4
          · subst k4
            clear k0 k1 k2 k3
            have HC := Lib.hid (HC.out.pushA (vlk (0 * 1) fun _ => undef) 20 (g := w.heap.size + 1) (by simp))
            go_enter Try.func10, Try.ntmps10
            (obtain ⟨r1, f1, i1, b1, l1⟩ := St.facts1 (HC.out.pick [0] (by decide) rfl))
            go_wp2_with fail
            go_loopw [3, 4] (fun l i wr => ∃ j : Nat, j ≤ kl ∧ i = .int .i64 (j : Int) ∧ ∃ (g cap : Nat) (F vs : Nat → Value) (L : List (Nat × Array Value)), l = .slice (some ⟨g, 0, none⟩) j cap ∧ Hid (j ≤ cap) ∧ Hid (ElOk F 1 j fun i => #[vs i]) ∧ Hid (∀ i (_ : i < j) (h : i < kids.length), AnyIn L (vs i) kids[i]) ∧ Hid (St w ((g, vlk (cap * 1) F) :: (w.heap.size, ndC ⟨4, n, s, ka, kl, kc, na, nl, nc⟩) :: L) wr)) (fun _ i _ => kl - (intOf i).toNat)
            case atStart => exact ⟨0, by omega, rfl, w.heap.size + 1, 0, (fun _ => undef), (fun _ => undef), [], rfl, Lib.hid (Nat.le_refl _), Lib.hid (.zero _ _ _), Lib.hid (fun i h => absurd h (by omega)), HC⟩
            case round =>
              clear HC
              obtain ⟨j, hj, rfl, g, cap, F, vs, L, rfl, HM, HF, HA, HC⟩ := hrel
              by_cases hlt : j < kl
              · have d6 : (j : Int) < (kl : Int) := by omega
                have hjn : j < kids.length := by rw [HK.out]; exact hlt
                obtain ⟨ad, rfl⟩ := H3.out.some j hlt
                have hld := ((H3.out.call HC.out.below (Nat.le_refl _)).at j hlt).node
                obtain ⟨r1, f1, i1, b1, l1⟩ := St.facts1 (HC.out.pick [1] (by decide) rfl)
                go_wp2_with fail
                (clear r1 f1 i1 b1 l1)
                clear hld
                refine (HI.out j hjn _ HC.out.below).mono ?_; rintro e w2 ⟨v, L2, rfl, hv, hs⟩
                have HV := Lib.hid hv
                have HO := Lib.hid (one_cell v hv.one)
                have hvo := hv.one
                have hvc := cells_one hvo
                have hna := not_agg hvo
                have HA := Lib.hid (AnyIn.more HA.out hjn hv)
                have HC := Lib.hid ((HC.out.joins hs).perm (L' := (g, vlk (cap * 1) F) :: (w.heap.size, ndC ⟨4, n, s, some ad, kl, kc, na, nl, nc⟩) :: (L2 ++ L)) (List.perm_append_comm_assoc [_, _] L2 L))
                clear hv hs
                go_wp2_with (at_builtin; refine stop_list ?_)
                have HC := Lib.hid (HC.out.push #[v] 20)
                refine wpList_push (w0 := w) rfl (.tmp 38) (.tmp 45) 57 20 rfl 1 grows_any g j cap F rfl w2.heap.size 1 #[v] rfl rfl HO.out HC.out HM.out (by omega) ?_
                intro g' cap' F' w3 x1 x2 x3 x4
                have HM := Lib.hid x1
                have HF := Lib.hid (HF.out.push (cells' := fun i => #[if i = j then v else vs i]) x2 x3 (fun i hi => by rw [if_neg (by omega)]) (by rw [if_pos rfl]))
                have HC := Lib.hid x4
                clear x1 x2 x3 x4
                go_wp2_with fail
                go_roundw
                case rel => exact ⟨j + 1, by omega, by go_num, g', cap', F', (fun i => if i = j then v else vs i), L2 ++ L, rfl, HM, HF, HA, HC⟩
                case measure => simp [intOf]; omega
              · obtain rfl : j = kl := by omega
                obtain ⟨r1, f1, i1, b1, l1⟩ := St.facts1 (HC.out.pick [1] (by decide) rfl)
                go_wp2_with fail
                go_ret
                refine ⟨_, (g, vlk (cap * 1) F) :: L, ?_, .list n s kids names (some ⟨g, 0, none⟩) cap vs ?_ fun i h => ?_, HC.out.sub (by simp)⟩
                · rw [HK.out]; rfl
                · rw [HK.out]; exact HF.out.in HM.out (.head _)
                · exact (HA.out i (by rw [← HK.out]; exact h) h).mono fun x hx => .tail _ hx
          · by_cases k5 : k = 5
            · subst k5
              clear k0 k1 k2 k3 k4
              have hpz := pairC_zero
              have HC := Lib.hid (HC.out.pushA (vlk (0 * 2) fun _ => undef) 60 (g := w.heap.size + 1) (by simp))
              go_enter Try.func10, Try.ntmps10
              (obtain ⟨r1, f1, i1, b1, l1⟩ := St.facts1 (HC.out.pick [0] (by decide) rfl))
              go_wp2_with fail
              go_loopw [5, 6] (fun l i wr => ∃ j : Nat, j ≤ kl ∧ i = .int .i64 (j : Int) ∧ ∃ (g cap : Nat) (F vs : Nat → Value) (L : List (Nat × Array Value)), l = .slice (some ⟨g, 0, none⟩) j cap ∧ Hid (j ≤ cap) ∧ Hid (ElOk F 2 j fun i => pairC (nameOf names i) (vs i)) ∧ Hid (∀ i (_ : i < j) (h : i < kids.length), AnyIn L (vs i) kids[i]) ∧ Hid (St w ((g, vlk (cap * 2) F) :: (w.heap.size, ndC ⟨5, n, s, ka, kl, kc, na, nl, nc⟩) :: L) wr)) (fun _ i _ => kl - (intOf i).toNat)
              case atStart => exact ⟨0, by omega, rfl, w.heap.size + 1, 0, (fun _ => undef), (fun _ => undef), [], rfl, Lib.hid (Nat.le_refl _), Lib.hid (.zero _ _ _), Lib.hid (fun i h => absurd h (by omega)), HC⟩
              case round =>
                clear HC
                obtain ⟨j, hj, rfl, g, cap, F, vs, L, rfl, HM, HF, HA, HC⟩ := hrel
                by_cases hlt : j < kl
                · have d6 : (j : Int) < (kl : Int) := by omega
                  have hjn : j < kids.length := by rw [HK.out]; exact hlt
                  obtain ⟨ad, rfl⟩ := H3.out.some j hlt
                  have hld := ((H3.out.call HC.out.below (Nat.le_refl _)).at j hlt).node
                  obtain ⟨r1, f1, i1, b1, l1⟩ := St.facts1 (HC.out.pick [1] (by decide) rfl)
                  go_wp2_with fail
                  (clear r1 f1 i1 b1 l1)
                  clear hld
                  refine (HI.out j hjn _ HC.out.below).mono ?_; rintro e w2 ⟨v, L2, rfl, hv, hs⟩
                  have hvo := hv.one
                  have hvc := cells_one hvo
                  have hna := not_agg hvo
                  have HA := Lib.hid (AnyIn.more HA.out hjn hv)
                  have HC := Lib.hid ((HC.out.joins hs).perm (L' := (g, vlk (cap * 2) F) :: (w.heap.size, ndC ⟨5, n, s, some ad, kl, kc, na, nl, nc⟩) :: (L2 ++ L)) (List.perm_append_comm_assoc [_, _] L2 L))
                  clear hv hs
                  go_upto_region 23 with fail
                  have HC := Lib.hid (HC.out.push (pairC ⟨#[]⟩ v) 60)
                  generalize w2.alloc (Obj.cells (pairC ⟨#[]⟩ v) 60) = w3 at HC ⊢
                  generalize w2.heap.size = gp at HC ⊢
                  obtain ⟨⟨r1, f1, i1, b1, l1⟩, ⟨r2, f2, i2, b2, l2⟩, m12, m21⟩ := St.facts2 (HC.out.pick [0, 2] (by decide) rfl)
                  by_cases hjl : j < nl
                  · have d7 : (j : Int) < (nl : Int) := by omega
                    obtain ⟨ad2, rfl⟩ := H5.out.some j hjl
                    have hl := ((H5.out.call HC.out.below (Nat.le_refl _)).at j hjl)
                    rw [Nat.mul_one] at hl
                    have k1 := hl.2.1
                    have k2 := hl.first (by omega)
                    obtain ⟨t, ht⟩ : ∃ t, nameOf names j = t := ⟨_, rfl⟩
                    rw [ht, show (#[Value.string t] : Array Value)[0]? = some (.string t) from rfl] at k2
                    have HT := Lib.hid ht
                    clear hl ht
                    go_upto_region 25 with fail
                    clear k1 k2
                    (clear r1 f1 i1 b1 l1 r2 f2 i2 b2 l2 m12 m21)
                    have HC := Lib.hid (HC.out.set_head (pairC t v) (by rw [pairC_size, pairC_size]))
                    generalize w3.setRow gp (pairC t v) = w4 at HC ⊢
                    (obtain ⟨r1, f1, i1, b1, l1⟩ := St.facts1 (HC.out.pick [0] (by decide) rfl)
                     go_wp2_with (at_builtin; refine stop_list ?_)
                     have HC := Lib.hid (HC.out.tail.push (pairC t v) 60)
                     refine wpList_push (w0 := w) rfl (.tmp 77) (.tmp 79) 61 60 rfl 2 grows_pair g j cap F rfl _ 1 (pairC t v) rfl (pairC_size _ _) (pairC_one _ _ hvo) HC.out HM.out (by omega) ?_
                     intro g' cap' F' w5 x1 x2 x3 x4
                     have HM := Lib.hid x1
                     have HF := Lib.hid (HF.out.push (cells' := fun i => pairC (nameOf names i) (if i = j then v else vs i)) x2 x3 (fun i hi => by rw [if_neg (by omega)]) (by rw [if_pos rfl, HT.out]))
                     have HC := Lib.hid x4
                     clear x1 x2 x3 x4 hvo hvc hna r1 f1 i1 b1 l1
                     go_wp2_with fail
                     go_roundw
                     case rel => exact ⟨j + 1, by omega, by go_num, g', cap', F', (fun i => if i = j then v else vs i), L2 ++ L, rfl, HM, HF, HA, HC⟩
                     case measure => simp [intOf]; omega)
                  · have d7 : ¬ (j : Int) < (nl : Int) := by omega
                    obtain ⟨t, ht⟩ : ∃ t : ByteArray, t = ⟨#[]⟩ := ⟨_, rfl⟩
                    have HT := Lib.hid ((nameOf_out names j (by rw [HN.out]; omega)).trans ht.symm)
                    go_upto_region 25 with fail
                    (clear r1 f1 i1 b1 l1 r2 f2 i2 b2 l2 m12 m21)
                    rw [← ht] at HC
                    clear ht
                    obtain ⟨w4, hw4⟩ : ∃ w4, w3 = w4 := ⟨_, rfl⟩
                    subst hw4
                    (obtain ⟨r1, f1, i1, b1, l1⟩ := St.facts1 (HC.out.pick [0] (by decide) rfl)
                     go_wp2_with (at_builtin; refine stop_list ?_)
                     have HC := Lib.hid (HC.out.tail.push (pairC t v) 60)
                     refine wpList_push (w0 := w) rfl (.tmp 77) (.tmp 79) 61 60 rfl 2 grows_pair g j cap F rfl _ 1 (pairC t v) rfl (pairC_size _ _) (pairC_one _ _ hvo) HC.out HM.out (by omega) ?_
                     intro g' cap' F' w5 x1 x2 x3 x4
                     have HM := Lib.hid x1
                     have HF := Lib.hid (HF.out.push (cells' := fun i => pairC (nameOf names i) (if i = j then v else vs i)) x2 x3 (fun i hi => by rw [if_neg (by omega)]) (by rw [if_pos rfl, HT.out]))
                     have HC := Lib.hid x4
                     clear x1 x2 x3 x4 hvo hvc hna r1 f1 i1 b1 l1
                     go_wp2_with fail
                     go_roundw
                     case rel => exact ⟨j + 1, by omega, by go_num, g', cap', F', (fun i => if i = j then v else vs i), L2 ++ L, rfl, HM, HF, HA, HC⟩
                     case measure => simp [intOf]; omega)
                · obtain rfl : j = kl := by omega
                  obtain ⟨r1, f1, i1, b1, l1⟩ := St.facts1 (HC.out.pick [1] (by decide) rfl)
                  go_wp2_with fail
                  go_ret
                  refine ⟨_, (g, vlk (cap * 2) F) :: L, ?_, .pairs n s kids names (some ⟨g, 0, none⟩) cap vs ?_ fun i h => ?_, HC.out.sub (by simp)⟩
                  · rw [HK.out]; rfl
                  · rw [HK.out]; exact HF.out.in HM.out (.head _)
                  · exact (HA.out i (by rw [← HK.out]; exact h) h).mono fun x hx => .tail _ hx
            · have d1 : ((k : Int) == 0) = false := by rw [beq_eq_false_iff_ne]; omega
              have d2 : ((k : Int) == 1) = false := by rw [beq_eq_false_iff_ne]; omega
              have d3 : ((k : Int) == 2) = false := by rw [beq_eq_false_iff_ne]; omega
              have d4 : ((k : Int) == 3) = false := by rw [beq_eq_false_iff_ne]; omega
              have d5 : ((k : Int) == 4) = false := by rw [beq_eq_false_iff_ne]; omega
              have d6 : ((k : Int) == 5) = false := by rw [beq_eq_false_iff_ne]; omega
              have hk6 : 5 < k := by omega
              have hk7 : (k : Int) ≤ 255 := by omega
              clear k0 k1 k2 k3 k4 k5
              (go_enter Try.func10, Try.ntmps10
               (obtain ⟨r1, f1, i1, b1, l1⟩ := St.facts1 (HC.out.pick [0] (by decide) rfl))
               go_wp2_with fail
               go_ret)
              exact ⟨_, [], rfl, .odd k _ _ _ _ hk6 hk, HC.out.free⟩
theorem own10_any : ∀ (x : Nd), Small x → ∀ (c : NdC) (w : World), NodeAt w c x → Calls Try.prog 10 #[.agg (ndC c)] w (Owned x w) := by
  refine Nd.ind fun k n s kids names ih => ?_
  intro hs c w h
  cases hs with
  | mk _ _ _ _ _ s1 s2 s3 s4 s5 =>
    cases h with
    | mk c kids names cs hk hn e1 e2 e3 e4 e5 =>
      obtain ⟨k, n, s, ka, kn, kc, na, nn, nc⟩ := c
      dsimp only at e1 e2 e3 e5
      subst e1 e2
      exact ownC k n s ka kc na nc kids names cs hk hn s2 w e3 e5 fun i hi w' hb => ih kids[i] (List.getElem_mem hi) (s5 _ (List.getElem_mem hi)) (cs i) w' ((e4 i hi).call hb (Nat.le_refl _))
end Go.Proofs.Ytinlcpenllfcpaa
