/- The program's taker: items. -/
import Derived.Test.YtinlcpenllfcpaaEnTk
namespace Go.Proofs.Ytinlcpenllfcpaa
open Go.RowKit
attribute [local go_sem] B_xor B_or B_and
attribute [local go_sem] blk_set blk_size blk_get blk_getE upd_same oneCells_blk paste_blk cut_blk szOf
attribute [local go_sem high] paste_all cut_head
attribute [local go_sem] rowAt_alloc rowAt_drew rowAt_drewN isRow_alloc isRow_drew isRow_drewN freeRow_alloc freeRow_end freeRow_drew freeRow_drewN
attribute [local go_sem] setRow_alloc setRow_drew setRow_drewN setCell_drewN alloc_drewN rowAt_put isRow_setRow freeRow_put
attribute [local go_sem ↓] loadS_in storeS_in indexS_in copyS_in
attribute [local go_sem] loadS_row loadS_one storeS_row storeS_one indexS_blk copyS_rows run_equalIn_blk same_refl arrayAt_row
attribute [local go_sem] cell_row frozen_row st_setCell st_blk_ne stepAt stepUpon
attribute [local go_sem high] run_eql_blk run_neq_blk
attribute [local go_sem ↓] convBS_in
attribute [local go_sem] convBS_row convBS_nil allBytes_blk bytesOf_blk
attribute [local go_sem] size_sc agg_sc sc_size sc_get0 sc_get1 sc_get2 sc_getE0 sc_getE1 sc_getE2 sc_set1 sc_set2 sc_ne sc_one sc_cut sc_paste size_tk agg_tk

abbrev PR := Except Nat (Nd × Nat)
/-- what is taken: a value, or an error -/
inductive TookR (w0 : World) (gt : Nat) (s : ByteArray) (L : List (Nat × Array Value)) (v : Value) (w : World) : PR → Prop
  | bad (d p : Nat) (hd : d ≠ 0) (hp : p ≤ s.size) (hv : v.oneCell' = true) (hC : St w0 ((gt, sc s p d) :: L) w) : TookR w0 gt s L v w (.error d)
  | ok (x : Nd) (q : Nat) (L' : List (Nat × Array Value)) (hx : AnyIn L' v x) (hq : q ≤ s.size) (hC : St w0 ((gt, sc s q 0) :: (L' ++ L)) w) : TookR w0 gt s L v w (.ok (x, q))
def Took (w0 : World) (gt : Nat) (s : ByteArray) (L : List (Nat × Array Value)) (R : PR) (e : Ending) (w : World) : Prop := ∃ v, e = .returned v ∧ TookR w0 gt s L v w R
theorem TookR.one {w0 : World} {gt : Nat} {s : ByteArray} {L : List (Nat × Array Value)} {v : Value} {w : World} {R : PR} (h : TookR w0 gt s L v w R) : v.oneCell' = true := by
  cases h with
  | bad d p hd hp hv hC => exact hv
  | ok x q L' hx hq hC => exact hx.one
abbrev LR := Except Nat (List (ByteArray × Nd) × Nat)
/-- how far one is in a list -/
inductive ItSt (w0 : World) (gt : Nat) (s : ByteArray) (f : Nat → PR) (c : Nat) (R : LR) (L : List (Nat × Array Value)) (G : Prop) (j : Nat) (out : Value) (w : World) : Prop
  | ok (hG : G) (g cap : Nat) (F vs : Nat → Value) (L' : List (Nat × Array Value)) (acc : List (ByteArray × Nd)) (p : Nat) (hp : p ≤ s.size) (ho : out = .slice (some ⟨g, 0, none⟩) j cap) (h1 : j ≤ cap) (h2 : ElOk F 1 j fun i => #[vs i]) (h3 : acc.length = j) (h4 : ∀ i (h : i < acc.length), AnyIn L' (vs i) acc[i].2) (hR : itemsA s f false (c - j) acc p = R) (hC : St w0 ((g, vlk (cap * 1) F) :: (gt, sc s p 0) :: (L' ++ L)) w) : ItSt w0 gt s f c R L G j out w
  | bad (d p : Nat) (hd : d ≠ 0) (hp : p ≤ s.size) (hR : R = .error d) (ho : ∃ a n k, out = .slice a n k) (hC : St w0 ((gt, sc s p d) :: L) w) : ItSt w0 gt s f c R L G j out w
theorem items_bad {s : ByteArray} {f : Nat → PR} {c : Nat} {acc : List (ByteArray × Nd)} {p e : Nat} (h : f p = .error e) : itemsA s f false (c + 1) acc p = .error e := by
  rw [itemsA, if_neg (fun h => Bool.noConfusion h), h]
theorem items_ok {s : ByteArray} {f : Nat → PR} {c : Nat} {acc : List (ByteArray × Nd)} {p p2 : Nat} {x : Nd} (h : f p = .ok (x, p2)) : itemsA s f false (c + 1) acc p = itemsA s f false c (acc ++ [(noT, x)]) p2 := by
  rw [itemsA, if_neg (fun h => Bool.noConfusion h), h]
/-- items behind a count -/
def itR (s : ByteArray) (f : Nat → PR) (pr : Bool) (p d : Nat) : LR := if (countR s p d).2.2 ≠ 0 then .error (countR s p d).2.2 else itemsA s f pr (countR s p d).1 [] (countR s p d).2.1
def finish (k : Nat) (R : LR) : PR := match R with
  | .error e => .error e
  | .ok (l, p) => .ok (ofItems k l, p)
theorem countR_le (s : ByteArray) (p d : Nat) (hp : p ≤ s.size) : (countR s p d).1 < 256 ∧ (countR s p d).2.1 ≤ s.size ∧ ((countR s p d).2.2 = 0 → d < 4 ∧ (countR s p d).1 ≤ 64) := by
  unfold countR
  by_cases h4 : 4 ≤ d
  · rw [if_pos h4]; exact ⟨by omega, hp, fun h => by cases h⟩
  · rw [if_neg h4]
    by_cases hn : p + 1 ≤ s.size
    · rw [if_pos hn]
      refine ⟨numAt1_lt s p, hn, fun h => ⟨by omega, ?_⟩⟩
      dsimp only at h ⊢
      split at h
      · cases h
      · omega
    · rw [if_neg hn]; exact ⟨by omega, hp, fun h => by cases h⟩
theorem more_in {L L2 : List (Nat × Array Value)} {vs : Nat → Value} {acc : List (ByteArray × Nd)} {j : Nat} {v : Value} {r : ByteArray} {x : Nd} (hj : acc.length = j) (h : ∀ i (h : i < acc.length), AnyIn L (vs i) acc[i].2) (hv : AnyIn L2 v x) : ∀ i (h : i < (acc ++ [(r, x)]).length), AnyIn (L2 ++ L) (if i = j then v else vs i) (acc ++ [(r, x)])[i].2 := fun i hi => by
  rw [List.length_append, List.length_singleton] at hi
  by_cases e : i = j
  · subst e
    rw [if_pos rfl, List.getElem_append_right (by omega)]
    simp only [hj, Nat.sub_self, List.getElem_cons_zero]
    exact hv.mono fun x hx => List.mem_append.2 (.inl hx)
  · rw [if_neg e, List.getElem_append_left (by omega)]
    exact (h i (by omega)).mono fun x hx => List.mem_append.2 (.inr hx)
set_option maxRecDepth 100000 in
set_option maxHeartbeats 4000000 in
theorem items_tk (gt : Nat) (s : ByteArray) (f : Nat → PR) (p0 d : Nat) (hd : d ≤ 10) (hp0 : p0 ≤ s.size) (hs : s.size < 2 ^ 30) (w0 w : World) (L : List (Nat × Array Value)) (hC : St w0 ((gt, sc s p0 0) :: L) w)
    (IH : d < 4 → ∀ p w L, p ≤ s.size → St w0 ((gt, sc s p 0) :: L) w → Calls Try.prog 32 #[.pointer (some ⟨gt, 0, none⟩), .int .i64 ((d : Int) + 1)] w (Took w0 gt s L (f p))) :
    Calls Try.prog 45 #[.pointer (some ⟨gt, 0, none⟩), .int .i64 (d : Int)] w (Took w0 gt s L (finish 4 (itR s f false p0 d))) := by
  have HC := Lib.hid hC
  have K := Lib.hid (count_tk gt s p0 d hd hp0 (by omega) w0 w L hC)
  obtain ⟨c1, c2, c3⟩ := countR_le s p0 d hp0
  obtain ⟨R, hR⟩ : ∃ R, itR s f false p0 d = R := ⟨_, rfl⟩
  rw [hR]
  unfold itR at hR
  obtain ⟨⟨N, q, e⟩, hcR⟩ : ∃ x, countR s p0 d = x := ⟨_, rfl⟩
  rw [hcR] at K c1 c2 c3 hR
  dsimp only at K c1 c2 c3 hR
  have HI := Lib.hid IH
  have H3 := Lib.hid c3
  have d10 : (d : Int) ≤ 10 := by omega
  have n255 : (N : Int) ≤ 255 := by omega
  have HR := Lib.hid hR
  clear hC IH c3 hR hcR hp0
  go_enter Try.func45, Try.ntmps45
  go_wp2_with fail
  refine K.out.mono ?_; rintro r w1 ⟨rfl, hw⟩
  have HC := Lib.hid hw
  clear hw K
  go_wp2_with fail
  have HC := Lib.hid (HC.out.push (vlk (0 * 1) fun _ => undef) 20)
  go_loopw [6, 12] (fun out i wr => ∃ j : Nat, j ≤ N ∧ i = .int .i64 (j : Int) ∧ Hid (ItSt w0 gt s f N R L (d < 4 ∧ N ≤ 64) j out wr)) (fun _ i _ => N - (intOf i).toNat)
  case atStart =>
    refine ⟨0, by omega, rfl, Lib.hid ?_⟩
    by_cases he : e = 0
    · subst he
      have hR := HR.out
      rw [if_neg (fun h => h rfl)] at hR
      exact .ok (H3.out rfl) w1.heap.size 0 (fun _ => undef) (fun _ => undef) [] [] q c2 rfl (Nat.le_refl _) (.zero _ _ _) rfl (fun i h => by cases h) hR HC.out
    · have hR := HR.out
      rw [if_pos he] at hR
      exact .bad e q he c2 hR.symm ⟨_, _, _, rfl⟩ HC.out.tail
  case round =>
    clear HC HR
    obtain ⟨j, hj, rfl, HJ⟩ := hrel
    by_cases hlt : j < N
    · have d6 : (j : Int) < (N : Int) := by omega
      cases HJ.out with
      | bad d' p hd' hp hR ho hC =>
        obtain ⟨oa, on, ok, rfl⟩ := ho
        have HC := Lib.hid hC
        have HR := Lib.hid hR
        have HD := Lib.hid hd'
        have e1 : ((d' : Int) != 0) = true := by rw [bne_iff_ne]; omega
        clear hC hR HJ hd'
        (obtain ⟨r1, f1, i1, b1, l1⟩ := St.facts1 (HC.out.pick [0] (by decide) rfl))
        go_wp2_with fail
        go_ret
        refine ⟨.nilIface, rfl, ?_⟩
        rw [HR.out]
        exact .bad d' p HD.out hp rfl HC.out
      | ok hG g cap F vs L' acc p hp ho h1 h2 h3 h4 hR hC =>
        subst ho
        obtain ⟨u, hu⟩ : ∃ u, N - j = u + 1 := ⟨N - j - 1, by omega⟩
        rw [hu] at hR
        obtain ⟨Y, hY⟩ : ∃ Y, f p = Y := ⟨_, rfl⟩
        have HC := Lib.hid (hC.perm (.swap (g, vlk (cap * 1) F) (gt, sc s p 0) (L' ++ L)))
        have K := HI.out hG.1 p
        rw [hY] at K
        have KK := Lib.hid K
        have HR := Lib.hid hR
        have HY := Lib.hid hY
        have HG := Lib.hid hG
        have HP := Lib.hid hp
        have H1 := Lib.hid h1
        have H2 := Lib.hid h2
        have HL := Lib.hid h3
        have H4 := Lib.hid h4
        have HU := Lib.hid hu
        have n64 : (N : Int) ≤ 64 := by omega
        clear hC hR HJ hY hG hp h1 h2 h3 h4 K hu
        (obtain ⟨r1, f1, i1, b1, l1⟩ := St.facts1 (HC.out.pick [0] (by decide) rfl))
        go_wp2_with fail
        (clear r1 f1 i1 b1 l1)
        refine (KK.out _ _ HP.out HC.out).mono ?_; rintro r w2 ⟨v, rfl, ht⟩
        have hvo := ht.one
        have hvc := cells_one hvo
        have hna := not_agg hvo
        have HT := Lib.hid ht
        clear ht
        go_wp2_with (at_builtin; refine stop_list ?_)
        cases HT.out with
        | bad d' p' hd' hp' hv' hC' =>
          have HC := Lib.hid ((hC'.push #[v] 20).perm (L' := (w2.heap.size, #[v]) :: (g, vlk (cap * 1) F) :: (gt, sc s p' d') :: (L' ++ L)) (.cons _ (.swap _ _ _)))
          have HD := Lib.hid (And.intro hd' hp')
          clear hC' hd' hp' HT
          refine wpList_push (w0 := w0) rfl (.tmp 20) (.tmp 25) 57 20 rfl 1 grows_any g j cap F rfl w2.heap.size 1 #[v] rfl rfl (one_cell v hvo) HC.out H1.out (by omega) ?_
          intro g' cap' F' w3 x1 x2 x3 x4
          have HC := Lib.hid (x4.tail.sub (L' := (gt, sc s p' d') :: L) (by simp))
          clear x1 x2 x3 x4 hvo hvc hna hv'
          go_wp2_with fail
          go_roundw
          case rel => exact ⟨j + 1, by omega, by go_num, Lib.hid (.bad d' p' HD.out.1 HD.out.2 (HR.out.symm.trans (items_bad HY.out)) ⟨_, _, _, rfl⟩ HC.out)⟩
          case measure => simp [intOf]; omega
        | ok x q' L2 hx hq' hC' =>
          have HC := Lib.hid ((hC'.push #[v] 20).perm (L' := (w2.heap.size, #[v]) :: (g, vlk (cap * 1) F) :: (gt, sc s q' 0) :: ((L2 ++ L') ++ L)) (.cons _ (by
            rw [List.append_assoc]
            exact (List.Perm.swap _ _ _).trans (.cons _ (List.perm_middle (l₁ := L2)).symm))))
          have HD := Lib.hid (And.intro hx hq')
          clear hC' hx hq' HT
          refine wpList_push (w0 := w0) rfl (.tmp 20) (.tmp 25) 57 20 rfl 1 grows_any g j cap F rfl w2.heap.size 1 #[v] rfl rfl (one_cell v hvo) HC.out H1.out (by omega) ?_
          intro g' cap' F' w3 x1 x2 x3 x4
          have HC := Lib.hid x4
          have X1 := Lib.hid x1
          have X2 := Lib.hid (H2.out.push (cells' := fun i => #[if i = j then v else vs i]) x2 x3 (fun i hi => by rw [if_neg (by omega)]) (by rw [if_pos rfl]))
          clear x1 x2 x3 x4 hvo hvc hna
          go_wp2_with fail
          go_roundw
          case rel => exact ⟨j + 1, by omega, by go_num, Lib.hid (.ok HG.out g' cap' F' (fun i => if i = j then v else vs i) (L2 ++ L') (acc ++ [(noT, x)]) q' HD.out.2 rfl X1.out X2.out (by rw [List.length_append, HL.out]; rfl) (more_in HL.out H4.out HD.out.1) (by rw [show N - (j + 1) = u by have := HU.out; omega]; exact (items_ok HY.out).symm.trans HR.out) HC.out)⟩
          case measure => simp [intOf]; omega
    · obtain rfl : j = N := by omega
      cases HJ.out with
      | bad d' p hd' hp hR ho hC =>
        obtain ⟨oa, on, ok, rfl⟩ := ho
        have HC := Lib.hid hC
        have HR := Lib.hid hR
        have HD := Lib.hid hd'
        clear hC hR HJ hd'
        go_wp2_with fail
        go_ret
        refine ⟨_, rfl, ?_⟩
        rw [HR.out]
        exact .bad d' p HD.out hp rfl HC.out
      | ok hG g cap F vs L' acc p hp ho h1 h2 h3 h4 hR hC =>
        subst ho
        rw [Nat.sub_self, itemsA] at hR
        have HC := Lib.hid hC
        have HR := Lib.hid hR
        have H1 := Lib.hid h1
        have H2 := Lib.hid h2
        have HL := Lib.hid h3
        have H4 := Lib.hid h4
        clear hC hR HJ h1 h2 h3 h4 hG
        go_wp2_with fail
        go_ret
        refine ⟨.iface 57 (.slice (some ⟨g, 0, none⟩) j cap), rfl, ?_⟩
        rw [← HR.out]
        have hl : (acc.map Prod.snd).length = j := by rw [List.length_map]; exact HL.out
        refine .ok (ofItems 4 acc) p ((g, vlk (cap * 1) F) :: L') ?_ hp (HC.out.perm (.swap _ _ _))
        unfold ofItems
        rw [if_neg (by decide)]
        have k := AnyIn.list (L := (g, vlk (cap * 1) F) :: L') 0 noT (acc.map Prod.snd) [] (some ⟨g, 0, none⟩) cap vs (by rw [hl]; exact H2.out.in H1.out (.head _)) (fun i hi => by
          rw [List.getElem_map]
          exact (H4.out i (by rw [List.length_map] at hi; exact hi)).mono fun x hx => .tail _ hx)
        rw [hl] at k
        exact k
end Go.Proofs.Ytinlcpenllfcpaa
