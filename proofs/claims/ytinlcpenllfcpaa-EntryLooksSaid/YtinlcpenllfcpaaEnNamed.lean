/- The program's taker: named. -/
import Derived.Test.YtinlcpenllfcpaaEnItems
namespace Go.Proofs.Ytinlcpenllfcpaa
open Go.RowKit
attribute [local go_sem] B_xor B_or B_and
attribute [local go_sem] blk_set blk_size blk_get blk_getE upd_same oneCells_blk paste_blk cut_blk szOf
attribute [local go_sem high] paste_all cut_head
attribute [local go_sem] rowAt_alloc rowAt_drew rowAt_drewN isRow_alloc isRow_drew isRow_drewN freeRow_alloc freeRow_end freeRow_drew freeRow_drewN
attribute [local go_sem] setRow_alloc setRow_drew setRow_drewN setCell_drewN alloc_drewN rowAt_put isRow_setRow freeRow_put
attribute [local go_sem ↓] loadS_in storeS_in indexS_in copyS_in
attribute [local go_sem] loadS_row loadS_one storeS_row storeS_one indexS_blk copyS_rows run_equalIn_blk same_refl arrayAt_row
attribute [local go_sem] cell_row frozen_row st_setCell st_blk_ne stepAt stepUpon
attribute [local go_sem high] run_eql_blk run_neq_blk
attribute [local go_sem ↓] convBS_in
attribute [local go_sem] convBS_row convBS_nil allBytes_blk bytesOf_blk
attribute [local go_sem] size_sc agg_sc sc_size sc_get0 sc_get1 sc_get2 sc_getE0 sc_getE1 sc_getE2 sc_set1 sc_set2 sc_ne sc_one sc_cut sc_paste size_tk agg_tk
attribute [local go_sem] pairC_size pairC_get0 pairC_get1 pairC_getE0 pairC_getE1 pairC_ne pairC_one pairC_cut pairC_paste pairC_set0 pairC_set1 size_pair agg_pair

/-- is this name not behind the last one? -/
def badOrder (acc : List (ByteArray × Nd)) (r : ByteArray) : Bool := match acc.getLast? with | none => false | some q => !lessT q.1 r
theorem named_row {s : ByteArray} {f : Nat → PR} {c : Nat} {acc : List (ByteArray × Nd)} {p e : Nat} (h : takeR s p = .error e) : itemsA s f true (c + 1) acc p = .error e := by
  rw [itemsA, if_pos rfl, h]
theorem named_order {s : ByteArray} {f : Nat → PR} {c : Nat} {acc : List (ByteArray × Nd)} {p p1 : Nat} {r : ByteArray} (h : takeR s p = .ok (r, p1)) (ho : badOrder acc r = true) : itemsA s f true (c + 1) acc p = .error 4 := by
  rw [itemsA, if_pos rfl, h]
  exact if_pos ho
theorem named_bad {s : ByteArray} {f : Nat → PR} {c : Nat} {acc : List (ByteArray × Nd)} {p p1 e : Nat} {r : ByteArray} (h : takeR s p = .ok (r, p1)) (ho : badOrder acc r = false) (hf : f p1 = .error e) : itemsA s f true (c + 1) acc p = .error e := by
  rw [itemsA, if_pos rfl, h]
  dsimp only
  rw [if_neg (fun k => by have h2 : badOrder acc r = true := k; rw [ho] at h2; cases h2), hf]
theorem named_ok {s : ByteArray} {f : Nat → PR} {c : Nat} {acc : List (ByteArray × Nd)} {p p1 p2 : Nat} {r : ByteArray} {x : Nd} (h : takeR s p = .ok (r, p1)) (ho : badOrder acc r = false) (hf : f p1 = .ok (x, p2)) : itemsA s f true (c + 1) acc p = itemsA s f true c (acc ++ [(r, x)]) p2 := by
  rw [itemsA, if_pos rfl, h]
  dsimp only
  rw [if_neg (fun k => by have h2 : badOrder acc r = true := k; rw [ho] at h2; cases h2), hf]
theorem badOrder_at (acc : List (ByteArray × Nd)) (r : ByteArray) (u : Nat) (h : acc.length = u + 1) : badOrder acc r = !lessT (nameOf (acc.map Prod.fst) u) r := by
  have hu : u < acc.length := by omega
  unfold badOrder
  rw [List.getLast?_eq_getElem?, show acc.length - 1 = u by omega, List.getElem?_eq_getElem hu]
  dsimp only
  rw [nameOf_get _ _ (by rw [List.length_map]; exact hu), List.getElem_map]
theorem takeR_le {s : ByteArray} {p q : Nat} {r : ByteArray} (h : takeR s p = .ok (r, q)) : q ≤ s.size := by
  unfold takeR at h
  split at h
  · split at h
    · cases h; assumption
    · cases h
  · cases h
theorem takeR_e {s : ByteArray} {p e : Nat} (h : takeR s p = .error e) : e = 3 := by
  unfold takeR at h
  split at h
  · split at h
    · cases h
    · cases h; rfl
  · cases h; rfl
inductive NmSt (w0 : World) (gt : Nat) (s : ByteArray) (f : Nat → PR) (c : Nat) (R : LR) (L : List (Nat × Array Value)) (G : Prop) (j : Nat) (out : Value) (w : World) : Prop
  | ok (hG : G) (g cap : Nat) (F vs : Nat → Value) (L' : List (Nat × Array Value)) (acc : List (ByteArray × Nd)) (p : Nat) (hp : p ≤ s.size) (ho : out = .slice (some ⟨g, 0, none⟩) j cap) (h1 : j ≤ cap) (h2 : ElOk F 2 j fun i => pairC (nameOf (acc.map Prod.fst) i) (vs i)) (h3 : acc.length = j) (h4 : ∀ i (h : i < acc.length), AnyIn L' (vs i) acc[i].2) (hR : itemsA s f true (c - j) acc p = R) (hC : St w0 ((g, vlk (cap * 2) F) :: (gt, sc s p 0) :: (L' ++ L)) w) : NmSt w0 gt s f c R L G j out w
  | bad (d p : Nat) (hd : d ≠ 0) (hp : p ≤ s.size) (hR : R = .error d) (ho : ∃ a n k, out = .slice a n k) (hC : St w0 ((gt, sc s p d) :: L) w) : NmSt w0 gt s f c R L G j out w
theorem nameOf_more (acc : List (ByteArray × Nd)) (r : ByteArray) (x : Nd) (i j : Nat) (hj : acc.length = j) : nameOf ((acc ++ [(r, x)]).map Prod.fst) i = if i = j then r else if i < j then nameOf (acc.map Prod.fst) i else ⟨#[]⟩ := by
  unfold nameOf
  rw [List.map_append, List.getD_eq_getElem?_getD]
  by_cases e : i = j
  · subst e
    rw [if_pos rfl, List.getElem?_append_right (by rw [List.length_map]; omega), List.length_map, hj, Nat.sub_self]
    rfl
  · rw [if_neg e]
    by_cases h : i < j
    · rw [if_pos h, List.getElem?_append_left (by rw [List.length_map]; omega), List.getD_eq_getElem?_getD]
    · rw [if_neg h, List.getElem?_eq_none (by simp; omega)]
      rfl
theorem tkRow_cases {s : ByteArray} {p q e : Nat} {r : ByteArray} (h : tkRow s p = (r, q, e)) : (e = 0 ∧ takeR s p = .ok (r, q)) ∨ (e ≠ 0 ∧ q = p ∧ takeR s p = .error e) := by
  unfold tkRow at h
  cases hR : takeR s p with
  | error d =>
    rw [hR] at h
    simp only [Prod.mk.injEq] at h
    obtain ⟨_, rfl, rfl⟩ := h
    exact .inr ⟨by rw [takeR_e hR]; decide, rfl, rfl⟩
  | ok x =>
    rw [hR] at h
    obtain ⟨r', q'⟩ := x
    simp only [Prod.mk.injEq] at h
    obtain ⟨rfl, rfl, rfl⟩ := h
    exact .inl ⟨rfl, rfl⟩
theorem store_pair {P : Program} {w : World} {g : Nat} {r : ByteArray} {u v : Value} (hr : rowAt w g = pairC r u) (hf : freeRow w g = true) (hi : isRow w g = true) (hv : v.oneCell' = true) : (store ⟨g, 1, none⟩ v).run P w = .ok () (w.setRow g (pairC r v)) := by
  have hz : w.frozen? ⟨g, 1, none⟩ = false := frozen_row g 1 hf (by rw [hr, pairC_size]; omega)
  rw [run_store P w _ v _ hv, cell_row g 1 hi, hr, pairC_get1]
  dsimp only
  rw [hz, st_setCell g 1 v hi, hr, pairC_set1]
  rfl
set_option maxRecDepth 100000 in
set_option maxHeartbeats 6000000 in
theorem named_tk (gt : Nat) (s : ByteArray) (f : Nat → PR) (p0 d : Nat) (hd : d ≤ 10) (hp0 : p0 ≤ s.size) (hs : s.size < 2 ^ 30) (w0 w : World) (L : List (Nat × Array Value)) (hC : St w0 ((gt, sc s p0 0) :: L) w)
    (IH : d < 4 → ∀ p w L, p ≤ s.size → St w0 ((gt, sc s p 0) :: L) w → Calls Try.prog 32 #[.pointer (some ⟨gt, 0, none⟩), .int .i64 ((d : Int) + 1)] w (Took w0 gt s L (f p))) :
    Calls Try.prog 46 #[.pointer (some ⟨gt, 0, none⟩), .int .i64 (d : Int)] w (Took w0 gt s L (finish 5 (itR s f true p0 d))) := by
  have HC := Lib.hid hC
  have K := Lib.hid (count_tk gt s p0 d hd hp0 (by omega) w0 w L hC)
  obtain ⟨c1, c2, c3⟩ := countR_le s p0 d hp0
  obtain ⟨R, hR⟩ : ∃ R, itR s f true p0 d = R := ⟨_, rfl⟩
  rw [hR]
  unfold itR at hR
  obtain ⟨⟨N, q, e⟩, hcR⟩ : ∃ x, countR s p0 d = x := ⟨_, rfl⟩
  rw [hcR] at K c1 c2 c3 hR
  dsimp only at K c1 c2 c3 hR
  have HI := Lib.hid IH
  have H3 := Lib.hid c3
  have d10 : (d : Int) ≤ 10 := by omega
  have n255 : (N : Int) ≤ 255 := by omega
  have HR := Lib.hid hR
  have hpz := pairC_zero
  clear hC IH c3 hR hcR hp0
  go_enter Try.func46, Try.ntmps46
  go_wp2_with fail
  refine K.out.mono ?_; rintro r w1 ⟨rfl, hw⟩
  have HC := Lib.hid hw
  clear hw K
  go_wp2_with fail
  have HC := Lib.hid (HC.out.push (vlk (0 * 2) fun _ => undef) 60)
  go_loopw [6, 14] (fun out i wr => ∃ j : Nat, j ≤ N ∧ i = .int .i64 (j : Int) ∧ Hid (NmSt w0 gt s f N R L (d < 4 ∧ N ≤ 64) j out wr)) (fun _ i _ => N - (intOf i).toNat)
  case atStart =>
    refine ⟨0, by omega, rfl, Lib.hid ?_⟩
    by_cases he : e = 0
    · subst he
      have hR := HR.out
      rw [if_neg (fun h => h rfl)] at hR
      exact .ok (H3.out rfl) w1.heap.size 0 (fun _ => undef) (fun _ => undef) [] [] q c2 rfl (Nat.le_refl _) (.zero _ _ _) rfl (fun i h => by cases h) hR HC.out
    · have hR := HR.out
      rw [if_pos he] at hR
      exact .bad e q he c2 hR.symm ⟨_, _, _, rfl⟩ HC.out.tail
  case round =>
    clear HC HR
    obtain ⟨j, hj, rfl, HJ⟩ := hrel
    by_cases hlt : j < N
    · have d6 : (j : Int) < (N : Int) := by omega
      cases HJ.out with
      | bad d' p hd' hp hR ho hC =>
        obtain ⟨oa, on, ok, rfl⟩ := ho
        have HC := Lib.hid hC
        have HR := Lib.hid hR
        have HD := Lib.hid hd'
        have e1 : ((d' : Int) != 0) = true := by rw [bne_iff_ne]; omega
        clear hC hR HJ hd'
        ((obtain ⟨r1, f1, i1, b1, l1⟩ := St.facts1 (HC.out.pick [0] (by decide) rfl))
         go_wp2_with fail
         go_ret)
        refine ⟨.nilIface, rfl, ?_⟩
        rw [HR.out]
        exact .bad d' p HD.out hp rfl HC.out
      | ok hG g cap F vs L' acc p hp ho h1 h2 h3 h4 hR hC =>
        subst ho
        obtain ⟨u, hu⟩ : ∃ u, N - j = u + 1 := ⟨N - j - 1, by omega⟩
        rw [hu] at hR
        have HC := Lib.hid (hC.perm (.swap (g, vlk (cap * 2) F) (gt, sc s p 0) (L' ++ L)))
        have HR := Lib.hid hR
        have HG := Lib.hid hG
        have HP := Lib.hid hp
        have H1 := Lib.hid h1
        have H2 := Lib.hid h2
        have HL := Lib.hid h3
        have H4 := Lib.hid h4
        have HU := Lib.hid hu
        have n64 : (N : Int) ≤ 64 := by omega
        have KR := Lib.hid (row_tk gt s p hp (by omega) w0)
        obtain ⟨⟨r, q1, e1⟩, hrow⟩ : ∃ x, tkRow s p = x := ⟨_, rfl⟩
        rw [hrow] at KR
        dsimp only at KR
        have HW := Lib.hid hrow
        clear hC hR HJ hG hp h1 h2 h3 h4 hu hrow
        (obtain ⟨r1, f1, i1, b1, l1⟩ := St.facts1 (HC.out.pick [0] (by decide) rfl))
        go_wp2_with fail
        (clear r1 f1 i1 b1 l1)
        refine (KR.out _ _ HC.out).mono ?_; rintro r w2 ⟨rfl, hw⟩
        have HC := Lib.hid hw
        clear hw KR
        have hno := pairC_one r .nilIface rfl
        go_upto_region 9 with fail
        clear hno
        have HC := Lib.hid (HC.out.push (pairC r .nilIface) 60)
        generalize w2.alloc (Obj.cells (pairC r .nilIface) 60) = w3 at HC ⊢
        generalize w2.heap.size = gp at HC ⊢
        obtain ⟨bo, hbo⟩ : ∃ b, badOrder acc r = b := ⟨_, rfl⟩
        have HBO := Lib.hid hbo
        clear hbo
        go_cut [38] from 26 to 38 (fun v wx => v = .bool bo ∧ Hid (St w0 ((gp, pairC r .nilIface) :: (gt, sc s q1 e1) :: (g, vlk (cap * 2) F) :: (L' ++ L)) wx))
        case first =>
          by_cases hj0 : j = 0
          · obtain rfl : bo = false := by
              have h := HBO.out
              rw [List.eq_nil_of_length_eq_zero (HL.out.trans hj0)] at h
              exact h.symm
            subst hj0
            refine St.qregion HC.out (by kernel_rfl) (by decide +kernel) ?_
            (first
               | (apply qw_skip rfl)
               | (apply qw_step rfl
                  focus
                    intro w0' hC
                    obtain ⟨r1, f1, i1, b1, l1⟩ := St.facts1 (hC.pick [0] (by decide) rfl)
                    clear hC
                    go_simp
                    with_reducible rfl)
             try simp only [Act.put, List.setIfInBounds_toArray, List.set])
            (first
               | (apply qw_skip rfl)
               | (apply qw_step rfl
                  focus
                    intro w0' hC
                    obtain ⟨r1, f1, i1, b1, l1⟩ := St.facts1 (hC.pick [0] (by decide) rfl)
                    clear hC
                    go_simp
                    with_reducible rfl)
             try simp only [Act.put, List.setIfInBounds_toArray, List.set])
            (first
               | (apply qw_skip rfl)
               | (apply qw_step rfl
                  focus
                    intro w0' hC
                    obtain ⟨r1, f1, i1, b1, l1⟩ := St.facts1 (hC.pick [0] (by decide) rfl)
                    clear hC
                    go_simp
                    with_reducible rfl)
             try simp only [Act.put, List.setIfInBounds_toArray, List.set])
            (first
               | (apply qw_skip rfl)
               | (apply qw_step rfl
                  focus
                    intro w0' hC
                    obtain ⟨r1, f1, i1, b1, l1⟩ := St.facts1 (hC.pick [0] (by decide) rfl)
                    clear hC
                    go_simp
                    with_reducible rfl)
             try simp only [Act.put, List.setIfInBounds_toArray, List.set])
            (first
               | (apply qw_skip rfl)
               | (apply qw_step rfl
                  focus
                    intro w0' hC
                    obtain ⟨r1, f1, i1, b1, l1⟩ := St.facts1 (hC.pick [0] (by decide) rfl)
                    clear hC
                    go_simp
                    with_reducible rfl)
             try simp only [Act.put, List.setIfInBounds_toArray, List.set])
            (first
               | (apply qw_skip rfl)
               | (apply qw_step rfl
                  focus
                    intro w0' hC
                    obtain ⟨r1, f1, i1, b1, l1⟩ := St.facts1 (hC.pick [0] (by decide) rfl)
                    clear hC
                    go_simp
                    with_reducible rfl)
             try simp only [Act.put, List.setIfInBounds_toArray, List.set])
            (first
               | (apply qw_skip rfl)
               | (apply qw_step rfl
                  focus
                    intro w0' hC
                    obtain ⟨r1, f1, i1, b1, l1⟩ := St.facts1 (hC.pick [0] (by decide) rfl)
                    clear hC
                    go_simp
                    with_reducible rfl)
             try simp only [Act.put, List.setIfInBounds_toArray, List.set])
            (first
               | (apply qw_skip rfl)
               | (apply qw_step rfl
                  focus
                    intro w0' hC
                    obtain ⟨r1, f1, i1, b1, l1⟩ := St.facts1 (hC.pick [0] (by decide) rfl)
                    clear hC
                    go_simp
                    with_reducible rfl)
             try simp only [Act.put, List.setIfInBounds_toArray, List.set])
            (first
               | (apply qw_skip rfl)
               | (apply qw_step rfl
                  focus
                    intro w0' hC
                    obtain ⟨r1, f1, i1, b1, l1⟩ := St.facts1 (hC.pick [0] (by decide) rfl)
                    clear hC
                    go_simp
                    with_reducible rfl)
             try simp only [Act.put, List.setIfInBounds_toArray, List.set])
            (first
               | (apply qw_skip rfl)
               | (apply qw_step rfl
                  focus
                    intro w0' hC
                    obtain ⟨r1, f1, i1, b1, l1⟩ := St.facts1 (hC.pick [0] (by decide) rfl)
                    clear hC
                    go_simp
                    with_reducible rfl)
             try simp only [Act.put, List.setIfInBounds_toArray, List.set])
            (first
               | (apply qw_skip rfl)
               | (apply qw_step rfl
                  focus
                    intro w0' hC
                    obtain ⟨r1, f1, i1, b1, l1⟩ := St.facts1 (hC.pick [0] (by decide) rfl)
                    clear hC
                    go_simp
                    with_reducible rfl)
             try simp only [Act.put, List.setIfInBounds_toArray, List.set])
            (first
               | (apply qw_skip rfl)
               | (apply qw_step rfl
                  focus
                    intro w0' hC
                    obtain ⟨r1, f1, i1, b1, l1⟩ := St.facts1 (hC.pick [0] (by decide) rfl)
                    clear hC
                    go_simp
                    with_reducible rfl)
             try simp only [Act.put, List.setIfInBounds_toArray, List.set])
            (first
               | (apply qw_skip rfl)
               | (apply qw_step rfl
                  focus
                    intro w0' hC
                    obtain ⟨r1, f1, i1, b1, l1⟩ := St.facts1 (hC.pick [0] (by decide) rfl)
                    clear hC
                    go_simp
                    with_reducible rfl)
             try simp only [Act.put, List.setIfInBounds_toArray, List.set])
            refine qw_nil ?_
            intro w4 hC
            have HC := Lib.hid hC
            clear hC
            go_wp2_with fail
            go_meet
            exact ⟨rfl, HC⟩
          · obtain ⟨y, hy⟩ : ∃ y, j = y + 1 := ⟨j - 1, by omega⟩
            have hb := badOrder_at acc r y (HL.out.trans hy)
            rw [HBO.out] at hb
            have p1 : (0 : Int) < (j : Int) := by omega
            have p2 : 0 < j := by omega
            have v1 : IntKind.i64.wrap ((j : Int) - 1) = (y : Int) := by rw [IntWalk.i64_in _ (by omega)]; omega
            have v2 : (j : Int) - 1 = (y : Int) := by omega
            have v3 : IntKind.i64.wrap (y : Int) = (y : Int) := IntWalk.i64_in _ (by omega)
            have y1 : (y : Int) < (j : Int) := by omega
            have y2 : y < j := by omega
            have y0 : (0 : Int) ≤ (y : Int) := by omega
            have HPC := Lib.hid (fun w' (h : St w0 ((gp, pairC r .nilIface) :: (gt, sc s q1 e1) :: (g, vlk (cap * 2) F) :: (L' ++ L)) w') => (show w'.cell? ⟨g, y * 2, none⟩ = some (.string (nameOf (acc.map Prod.fst) y)) from by
              obtain ⟨_, k3, _, k5⟩ := h.rows (g, vlk (cap * 2) F) (.tail _ (.tail _ (.head _)))
              rw [cell_row g _ k5, k3, vlk_get _ _ _ (by have := H1.out; omega)]
              have k := H2.out y y2 0 (by omega)
              rw [Nat.add_zero] at k
              rw [k]; exact pairC_get0 _ _))
            generalize nameOf (acc.map Prod.fst) y = t' at HPC hb
            clear hj0 hy
            by_cases hle : lessT t' r = true
            · obtain rfl : bo = false := by rw [hb, hle]; rfl
              unfold lessT at hle
              clear hb
              refine St.qregion HC.out (by kernel_rfl) (by decide +kernel) ?_
              (first
                 | (apply qw_skip rfl)
                 | (apply qw_step rfl
                    focus
                      intro w0' hC
                      have k2 := HPC.out _ hC
                      obtain ⟨r1, f1, i1, b1, l1⟩ := St.facts1 (hC.pick [0] (by decide) rfl)
                      clear hC
                      go_simp
                      with_reducible rfl)
               try simp only [Act.put, List.setIfInBounds_toArray, List.set])
              (first
                 | (apply qw_skip rfl)
                 | (apply qw_step rfl
                    focus
                      intro w0' hC
                      have k2 := HPC.out _ hC
                      obtain ⟨r1, f1, i1, b1, l1⟩ := St.facts1 (hC.pick [0] (by decide) rfl)
                      clear hC
                      go_simp
                      with_reducible rfl)
               try simp only [Act.put, List.setIfInBounds_toArray, List.set])
              (first
                 | (apply qw_skip rfl)
                 | (apply qw_step rfl
                    focus
                      intro w0' hC
                      have k2 := HPC.out _ hC
                      obtain ⟨r1, f1, i1, b1, l1⟩ := St.facts1 (hC.pick [0] (by decide) rfl)
                      clear hC
                      go_simp
                      with_reducible rfl)
               try simp only [Act.put, List.setIfInBounds_toArray, List.set])
              (first
                 | (apply qw_skip rfl)
                 | (apply qw_step rfl
                    focus
                      intro w0' hC
                      have k2 := HPC.out _ hC
                      obtain ⟨r1, f1, i1, b1, l1⟩ := St.facts1 (hC.pick [0] (by decide) rfl)
                      clear hC
                      go_simp
                      with_reducible rfl)
               try simp only [Act.put, List.setIfInBounds_toArray, List.set])
              (first
                 | (apply qw_skip rfl)
                 | (apply qw_step rfl
                    focus
                      intro w0' hC
                      have k2 := HPC.out _ hC
                      obtain ⟨r1, f1, i1, b1, l1⟩ := St.facts1 (hC.pick [0] (by decide) rfl)
                      clear hC
                      go_simp
                      with_reducible rfl)
               try simp only [Act.put, List.setIfInBounds_toArray, List.set])
              (first
                 | (apply qw_skip rfl)
                 | (apply qw_step rfl
                    focus
                      intro w0' hC
                      have k2 := HPC.out _ hC
                      obtain ⟨r1, f1, i1, b1, l1⟩ := St.facts1 (hC.pick [0] (by decide) rfl)
                      clear hC
                      go_simp
                      with_reducible rfl)
               try simp only [Act.put, List.setIfInBounds_toArray, List.set])
              (first
                 | (apply qw_skip rfl)
                 | (apply qw_step rfl
                    focus
                      intro w0' hC
                      have k2 := HPC.out _ hC
                      obtain ⟨r1, f1, i1, b1, l1⟩ := St.facts1 (hC.pick [0] (by decide) rfl)
                      clear hC
                      go_simp
                      with_reducible rfl)
               try simp only [Act.put, List.setIfInBounds_toArray, List.set])
              (first
                 | (apply qw_skip rfl)
                 | (apply qw_step rfl
                    focus
                      intro w0' hC
                      have k2 := HPC.out _ hC
                      obtain ⟨r1, f1, i1, b1, l1⟩ := St.facts1 (hC.pick [0] (by decide) rfl)
                      clear hC
                      go_simp
                      with_reducible rfl)
               try simp only [Act.put, List.setIfInBounds_toArray, List.set])
              (first
                 | (apply qw_skip rfl)
                 | (apply qw_step rfl
                    focus
                      intro w0' hC
                      have k2 := HPC.out _ hC
                      obtain ⟨r1, f1, i1, b1, l1⟩ := St.facts1 (hC.pick [0] (by decide) rfl)
                      clear hC
                      go_simp
                      with_reducible rfl)
               try simp only [Act.put, List.setIfInBounds_toArray, List.set])
              (first
                 | (apply qw_skip rfl)
                 | (apply qw_step rfl
                    focus
                      intro w0' hC
                      have k2 := HPC.out _ hC
                      obtain ⟨r1, f1, i1, b1, l1⟩ := St.facts1 (hC.pick [0] (by decide) rfl)
                      clear hC
                      go_simp
                      with_reducible rfl)
               try simp only [Act.put, List.setIfInBounds_toArray, List.set])
              (first
                 | (apply qw_skip rfl)
                 | (apply qw_step rfl
                    focus
                      intro w0' hC
                      have k2 := HPC.out _ hC
                      obtain ⟨r1, f1, i1, b1, l1⟩ := St.facts1 (hC.pick [0] (by decide) rfl)
                      clear hC
                      go_simp
                      with_reducible rfl)
               try simp only [Act.put, List.setIfInBounds_toArray, List.set])
              (first
                 | (apply qw_skip rfl)
                 | (apply qw_step rfl
                    focus
                      intro w0' hC
                      have k2 := HPC.out _ hC
                      obtain ⟨r1, f1, i1, b1, l1⟩ := St.facts1 (hC.pick [0] (by decide) rfl)
                      clear hC
                      go_simp
                      with_reducible rfl)
               try simp only [Act.put, List.setIfInBounds_toArray, List.set])
              (first
                 | (apply qw_skip rfl)
                 | (apply qw_step rfl
                    focus
                      intro w0' hC
                      have k2 := HPC.out _ hC
                      obtain ⟨r1, f1, i1, b1, l1⟩ := St.facts1 (hC.pick [0] (by decide) rfl)
                      clear hC
                      go_simp
                      with_reducible rfl)
               try simp only [Act.put, List.setIfInBounds_toArray, List.set])
              refine qw_nil ?_
              intro w4 hC
              have HC := Lib.hid hC
              clear hC
              go_wp2_with fail
              go_meet
              exact ⟨rfl, HC⟩
            · have hle : lessT t' r = false := by simpa using hle
              obtain rfl : bo = true := by rw [hb, hle]; rfl
              unfold lessT at hle
              clear hb
              refine St.qregion HC.out (by kernel_rfl) (by decide +kernel) ?_
              (first
                 | (apply qw_skip rfl)
                 | (apply qw_step rfl
                    focus
                      intro w0' hC
                      have k2 := HPC.out _ hC
                      obtain ⟨r1, f1, i1, b1, l1⟩ := St.facts1 (hC.pick [0] (by decide) rfl)
                      clear hC
                      go_simp
                      with_reducible rfl)
               try simp only [Act.put, List.setIfInBounds_toArray, List.set])
              (first
                 | (apply qw_skip rfl)
                 | (apply qw_step rfl
                    focus
                      intro w0' hC
                      have k2 := HPC.out _ hC
                      obtain ⟨r1, f1, i1, b1, l1⟩ := St.facts1 (hC.pick [0] (by decide) rfl)
                      clear hC
                      go_simp
                      with_reducible rfl)
               try simp only [Act.put, List.setIfInBounds_toArray, List.set])
              (first
                 | (apply qw_skip rfl)
                 | (apply qw_step rfl
                    focus
                      intro w0' hC
                      have k2 := HPC.out _ hC
                      obtain ⟨r1, f1, i1, b1, l1⟩ := St.facts1 (hC.pick [0] (by decide) rfl)
                      clear hC
                      go_simp
                      with_reducible rfl)
               try simp only [Act.put, List.setIfInBounds_toArray, List.set])
              (first
                 | (apply qw_skip rfl)
                 | (apply qw_step rfl
                    focus
                      intro w0' hC
                      have k2 := HPC.out _ hC
                      obtain ⟨r1, f1, i1, b1, l1⟩ := St.facts1 (hC.pick [0] (by decide) rfl)
                      clear hC
                      go_simp
                      with_reducible rfl)
               try simp only [Act.put, List.setIfInBounds_toArray, List.set])
              (first
                 | (apply qw_skip rfl)
                 | (apply qw_step rfl
                    focus
                      intro w0' hC
                      have k2 := HPC.out _ hC
                      obtain ⟨r1, f1, i1, b1, l1⟩ := St.facts1 (hC.pick [0] (by decide) rfl)
                      clear hC
                      go_simp
                      with_reducible rfl)
               try simp only [Act.put, List.setIfInBounds_toArray, List.set])
              (first
                 | (apply qw_skip rfl)
                 | (apply qw_step rfl
                    focus
                      intro w0' hC
                      have k2 := HPC.out _ hC
                      obtain ⟨r1, f1, i1, b1, l1⟩ := St.facts1 (hC.pick [0] (by decide) rfl)
                      clear hC
                      go_simp
                      with_reducible rfl)
               try simp only [Act.put, List.setIfInBounds_toArray, List.set])
              (first
                 | (apply qw_skip rfl)
                 | (apply qw_step rfl
                    focus
                      intro w0' hC
                      have k2 := HPC.out _ hC
                      obtain ⟨r1, f1, i1, b1, l1⟩ := St.facts1 (hC.pick [0] (by decide) rfl)
                      clear hC
                      go_simp
                      with_reducible rfl)
               try simp only [Act.put, List.setIfInBounds_toArray, List.set])
              (first
                 | (apply qw_skip rfl)
                 | (apply qw_step rfl
                    focus
                      intro w0' hC
                      have k2 := HPC.out _ hC
                      obtain ⟨r1, f1, i1, b1, l1⟩ := St.facts1 (hC.pick [0] (by decide) rfl)
                      clear hC
                      go_simp
                      with_reducible rfl)
               try simp only [Act.put, List.setIfInBounds_toArray, List.set])
              (first
                 | (apply qw_skip rfl)
                 | (apply qw_step rfl
                    focus
                      intro w0' hC
                      have k2 := HPC.out _ hC
                      obtain ⟨r1, f1, i1, b1, l1⟩ := St.facts1 (hC.pick [0] (by decide) rfl)
                      clear hC
                      go_simp
                      with_reducible rfl)
               try simp only [Act.put, List.setIfInBounds_toArray, List.set])
              (first
                 | (apply qw_skip rfl)
                 | (apply qw_step rfl
                    focus
                      intro w0' hC
                      have k2 := HPC.out _ hC
                      obtain ⟨r1, f1, i1, b1, l1⟩ := St.facts1 (hC.pick [0] (by decide) rfl)
                      clear hC
                      go_simp
                      with_reducible rfl)
               try simp only [Act.put, List.setIfInBounds_toArray, List.set])
              (first
                 | (apply qw_skip rfl)
                 | (apply qw_step rfl
                    focus
                      intro w0' hC
                      have k2 := HPC.out _ hC
                      obtain ⟨r1, f1, i1, b1, l1⟩ := St.facts1 (hC.pick [0] (by decide) rfl)
                      clear hC
                      go_simp
                      with_reducible rfl)
               try simp only [Act.put, List.setIfInBounds_toArray, List.set])
              (first
                 | (apply qw_skip rfl)
                 | (apply qw_step rfl
                    focus
                      intro w0' hC
                      have k2 := HPC.out _ hC
                      obtain ⟨r1, f1, i1, b1, l1⟩ := St.facts1 (hC.pick [0] (by decide) rfl)
                      clear hC
                      go_simp
                      with_reducible rfl)
               try simp only [Act.put, List.setIfInBounds_toArray, List.set])
              (first
                 | (apply qw_skip rfl)
                 | (apply qw_step rfl
                    focus
                      intro w0' hC
                      have k2 := HPC.out _ hC
                      obtain ⟨r1, f1, i1, b1, l1⟩ := St.facts1 (hC.pick [0] (by decide) rfl)
                      clear hC
                      go_simp
                      with_reducible rfl)
               try simp only [Act.put, List.setIfInBounds_toArray, List.set])
              refine qw_nil ?_
              intro w4 hC
              have HC := Lib.hid hC
              clear hC
              go_wp2_with fail
              go_meet
              exact ⟨rfl, HC⟩
        case rest =>
          obtain ⟨rfl, HJC⟩ := hcut
          clear HC
          have HC := HJC
          clear HJC
          cases bo
          · rcases tkRow_cases HW.out with ⟨he0, ht⟩ | ⟨he, hqp, ht⟩
            · subst he0
              have HTR := Lib.hid ht
              have HQ := Lib.hid (takeR_le ht)
              obtain ⟨Y, hY⟩ : ∃ Y, f q1 = Y := ⟨_, rfl⟩
              have K := HI.out HG.out.1 q1
              rw [hY] at K
              have KK := Lib.hid K
              have HY := Lib.hid hY
              clear ht hY K HW
              obtain ⟨⟨r1, f1, i1, b1, l1⟩, ⟨r2, f2, i2, b2, l2⟩, m12, m21⟩ := St.facts2 (HC.out.pick [0, 1] (by decide) rfl)
              go_wp2_with fail
              (clear r1 f1 i1 b1 l1 r2 f2 i2 b2 l2 m12 m21)
              refine (KK.out _ _ HQ.out HC.out.swap).mono ?_; rintro r0 w5 ⟨v, rfl, ht⟩
              have hvo := ht.one
              have hvc := cells_one hvo
              have hna := not_agg hvo
              have hov := one_cell v hvo
              have HT := Lib.hid ht
              clear ht KK
              cases HT.out with
              | bad d' p' hd' hp' hv' hC' =>
                have HC := Lib.hid hC'.swap
                have HD := Lib.hid (And.intro hd' hp')
                clear hC' hd' hp' HT hv'
                ((obtain ⟨r1, f1, i1, b1, l1⟩ := St.facts1 (HC.out.pick [0] (by decide) rfl))
                 have hst := store_pair (P := Try.prog) r1 f1 i1 hvo
                 go_upto_region 14 with fail
                 clear hst
                 (clear r1 f1 i1 b1 l1)
                 have HC := Lib.hid (HC.out.set_head (pairC r v) (by rw [pairC_size, pairC_size]))
                 generalize w5.setRow gp (pairC r v) = w6 at HC ⊢
                 (obtain ⟨r1, f1, i1, b1, l1⟩ := St.facts1 (HC.out.pick [0] (by decide) rfl))
                 go_wp2_with (at_builtin; refine stop_list ?_)
                 have HC := Lib.hid ((HC.out.tail.push (pairC r v) 60).perm (L' := (w6.heap.size, pairC r v) :: (g, vlk (cap * 2) F) :: (gt, _) :: _) (.cons _ (.swap _ _ _)))
                 clear r1 f1 i1 b1 l1
                 refine wpList_push (w0 := w0) rfl (.tmp 52) (.tmp 54) 61 60 rfl 2 grows_pair g j cap F rfl w6.heap.size 1 (pairC r v) rfl (pairC_size _ _) (pairC_one _ _ hvo) HC.out H1.out (by omega) ?_)
                intro g' cap' F' w7 x1 x2 x3 x4
                have HC := Lib.hid (x4.tail.sub (L' := (gt, sc s p' d') :: L) (by simp))
                clear x1 x2 x3 x4 hvo hvc hna hov
                go_wp2_with fail
                go_roundw
                case rel => exact ⟨j + 1, by omega, by go_num, Lib.hid (.bad d' p' HD.out.1 HD.out.2 (HR.out.symm.trans (named_bad HTR.out HBO.out HY.out)) ⟨_, _, _, rfl⟩ HC.out)⟩
                case measure => simp [intOf]; omega
              | ok x q' L2 hx hq' hC' =>
                have HC := Lib.hid (hC'.perm (L' := (gp, pairC r .nilIface) :: (gt, sc s q' 0) :: (g, vlk (cap * 2) F) :: ((L2 ++ L') ++ L)) (by
                  rw [List.append_assoc]
                  exact (List.Perm.swap _ _ _).trans (.cons _ ((List.perm_append_comm_assoc [_, _] L2 _)))))
                have HD := Lib.hid (And.intro hx hq')
                clear hC' hx hq' HT
                ((obtain ⟨r1, f1, i1, b1, l1⟩ := St.facts1 (HC.out.pick [0] (by decide) rfl))
                 have hst := store_pair (P := Try.prog) r1 f1 i1 hvo
                 go_upto_region 14 with fail
                 clear hst
                 (clear r1 f1 i1 b1 l1)
                 have HC := Lib.hid (HC.out.set_head (pairC r v) (by rw [pairC_size, pairC_size]))
                 generalize w5.setRow gp (pairC r v) = w6 at HC ⊢
                 (obtain ⟨r1, f1, i1, b1, l1⟩ := St.facts1 (HC.out.pick [0] (by decide) rfl))
                 go_wp2_with (at_builtin; refine stop_list ?_)
                 have HC := Lib.hid ((HC.out.tail.push (pairC r v) 60).perm (L' := (w6.heap.size, pairC r v) :: (g, vlk (cap * 2) F) :: (gt, _) :: _) (.cons _ (.swap _ _ _)))
                 clear r1 f1 i1 b1 l1
                 refine wpList_push (w0 := w0) rfl (.tmp 52) (.tmp 54) 61 60 rfl 2 grows_pair g j cap F rfl w6.heap.size 1 (pairC r v) rfl (pairC_size _ _) (pairC_one _ _ hvo) HC.out H1.out (by omega) ?_)
                intro g' cap' F' w7 x1 x2 x3 x4
                have HC := Lib.hid x4
                have X1 := Lib.hid x1
                have X2 := Lib.hid (H2.out.push (cells' := fun i => pairC (nameOf ((acc ++ [(r, x)]).map Prod.fst) i) (if i = j then v else vs i)) x2 x3 (fun i hi => by rw [nameOf_more _ _ _ _ _ HL.out, if_neg (by omega), if_pos hi, if_neg (by omega)]) (by rw [nameOf_more _ _ _ _ _ HL.out, if_pos rfl, if_pos rfl]))
                clear x1 x2 x3 x4 hvo hvc hna hov
                go_wp2_with fail
                go_roundw
                case rel => exact ⟨j + 1, by omega, by go_num, Lib.hid (.ok HG.out g' cap' F' (fun i => if i = j then v else vs i) (L2 ++ L') (acc ++ [(r, x)]) q' HD.out.2 rfl X1.out X2.out (by rw [List.length_append, HL.out]; rfl) (more_in HL.out H4.out HD.out.1) (by rw [show N - (j + 1) = u by have := HU.out; omega]; exact (named_ok HTR.out HBO.out HY.out).symm.trans HR.out) HC.out)⟩
                case measure => simp [intOf]; omega
            · have e2 : ((e1 : Int) != 0) = true := by rw [bne_iff_ne]; omega
              have HTR := Lib.hid ht
              have HE := Lib.hid he
              have HQ := Lib.hid (show q1 ≤ s.size by rw [hqp]; exact HP.out)
              clear he ht hqp HW
              obtain ⟨⟨r1, f1, i1, b1, l1⟩, ⟨r2, f2, i2, b2, l2⟩, m12, m21⟩ := St.facts2 (HC.out.pick [0, 1] (by decide) rfl)
              go_wp2_with fail
              go_ret
              refine ⟨.nilIface, rfl, ?_⟩
              rw [← HR.out, named_row HTR.out]
              exact .bad e1 q1 HE.out HQ.out rfl (HC.out.sub (.cons _ (.cons_cons _ ((List.sublist_append_right L' L).cons _))))
          · have hq1 : q1 ≤ s.size := by
              rcases tkRow_cases HW.out with ⟨_, ht⟩ | ⟨_, hqp, _⟩
              · exact takeR_le ht
              · rw [hqp]; exact HP.out
            obtain ⟨d2, hd2⟩ : ∃ d2, failE e1 4 = d2 := ⟨_, rfl⟩
            have hd0 : d2 ≠ 0 := by rw [← hd2]; unfold failE; split <;> omega
            have hRd : R = .error d2 := by
              rw [← HR.out, ← hd2]
              rcases tkRow_cases HW.out with ⟨rfl, ht⟩ | ⟨he, _, ht⟩
              · exact named_order ht HBO.out
              · rw [named_row ht]; unfold failE; rw [if_neg he]
            have KF := fail_tk gt s q1 e1 4 w0 _ _ HC.out.swap
            rw [hd2] at KF
            have KK := Lib.hid KF
            have HQ := Lib.hid hq1
            have HD := Lib.hid hd0
            have HRD := Lib.hid hRd
            have e2 : ((d2 : Int) != 0) = true := by rw [bne_iff_ne]; omega
            clear hq1 hd2 hd0 hRd KF
            go_wp2_with fail
            refine KK.out.mono ?_; rintro r0 w5 ⟨rfl, hw⟩
            have HC := Lib.hid hw
            clear hw KK
            (obtain ⟨r1, f1, i1, b1, l1⟩ := St.facts1 (HC.out.pick [0] (by decide) rfl))
            go_wp2_with fail
            go_ret
            refine ⟨.nilIface, rfl, ?_⟩
            rw [HRD.out]
            exact .bad d2 q1 HD.out HQ.out rfl (HC.out.sub (.cons_cons _ (((List.sublist_append_right L' L).cons _).cons _)))
    · obtain rfl : j = N := by omega
      cases HJ.out with
      | bad d' p hd' hp hR ho hC =>
        obtain ⟨oa, on, ok, rfl⟩ := ho
        have HC := Lib.hid hC
        have HR := Lib.hid hR
        have HD := Lib.hid hd'
        clear hC hR HJ hd'
        go_wp2_with fail
        go_ret
        refine ⟨_, rfl, ?_⟩
        rw [HR.out]
        exact .bad d' p HD.out hp rfl HC.out
      | ok hG g cap F vs L' acc p hp ho h1 h2 h3 h4 hR hC =>
        subst ho
        rw [Nat.sub_self, itemsA] at hR
        have HC := Lib.hid hC
        have HR := Lib.hid hR
        have H1 := Lib.hid h1
        have H2 := Lib.hid h2
        have HL := Lib.hid h3
        have H4 := Lib.hid h4
        clear hC hR HJ h1 h2 h3 h4 hG
        go_wp2_with fail
        go_ret
        refine ⟨.iface 61 (.slice (some ⟨g, 0, none⟩) j cap), rfl, ?_⟩
        rw [← HR.out]
        have hl : (acc.map Prod.snd).length = j := by rw [List.length_map]; exact HL.out
        refine .ok (ofItems 5 acc) p ((g, vlk (cap * 2) F) :: L') ?_ hp (HC.out.perm (.swap _ _ _))
        unfold ofItems
        rw [if_pos rfl]
        have k := AnyIn.pairs (L := (g, vlk (cap * 2) F) :: L') 0 noT (acc.map Prod.snd) (acc.map Prod.fst) (some ⟨g, 0, none⟩) cap vs (by rw [hl]; exact H2.out.in H1.out (.head _)) (fun i hi => by
          rw [List.getElem_map]
          exact (H4.out i (by rw [List.length_map] at hi; exact hi)).mono fun x hx => .tail _ hx)
        rw [hl] at k
        exact k
end Go.Proofs.Ytinlcpenllfcpaa
