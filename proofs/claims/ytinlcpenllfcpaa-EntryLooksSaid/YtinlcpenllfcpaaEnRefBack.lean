/- Back: the reference's node of a value of the program's. -/
import Derived.Test.YtinlcpenllfcpaaEnHold
import Derived.Test.YtinlcpenllfcpaaEnSame
import Derived.Deep.RegionLaw
namespace Go.Proofs.Ytinlcpenllfcpaa
open Go.RowKit
attribute [local go_sem] B_xor B_or B_and
attribute [local go_sem] blk_set blk_size blk_get blk_getE upd_same oneCells_blk paste_blk cut_blk szOf
attribute [local go_sem high] paste_all cut_head
attribute [local go_sem] rowAt_alloc rowAt_drew rowAt_drewN isRow_alloc isRow_drew isRow_drewN freeRow_alloc freeRow_end freeRow_drew freeRow_drewN
attribute [local go_sem] setRow_alloc setRow_drew setRow_drewN setCell_drewN alloc_drewN rowAt_put isRow_setRow freeRow_put
attribute [local go_sem ↓] loadS_in storeS_in indexS_in copyS_in
attribute [local go_sem] loadS_row loadS_one storeS_row storeS_one indexS_blk copyS_rows run_equalIn_blk same_refl arrayAt_row
attribute [local go_sem] cell_row frozen_row st_setCell st_blk_ne stepAt stepUpon
attribute [local go_sem high] run_eql_blk run_neq_blk
attribute [local go_sem ↓] convBS_in
attribute [local go_sem] convBS_row convBS_nil allBytes_blk bytesOf_blk
attribute [local go_sem] ndC_size ndC_get0 ndC_get1 ndC_get2 ndC_get3 ndC_get4 ndC_getE0 ndC_getE1 ndC_getE2 ndC_getE3 ndC_getE4 ndC_ne ndC_one ndC_cut ndC_paste ndC_set0 ndC_set1 ndC_set2 ndC_set3 ndC_set4 size_nd agg_nd
attribute [local go_sem] pairC_size pairC_get0 pairC_get1 pairC_getE0 pairC_getE1 pairC_ne pairC_one pairC_cut pairC_paste pairC_set0 pairC_set1 size_pair agg_pair
attribute [local go_sem] as_bool_yes as_u64_yes as_text_yes as_list_yes as_pairs_yes as_text_must as_u64_must as_bool_no as_u64_no as_text_no as_list_no as_pairs_no as_bool_nil as_u64_nil as_text_nil as_list_nil as_pairs_nil

mutual
def ndBack : Nd → Nat → Nd
  | .mk k n s kids names, d => if 8 < d then .mk 9 0 noT [] [] else if k = 0 then .zero else if k = 1 then .mk 1 (if n = 1 then 1 else 0) noT [] [] else if k = 2 then .mk 2 n noT [] [] else if k = 3 then .mk 3 0 s [] [] else if k = 4 then .mk 4 0 noT (backL kids (d + 1)) [] else if k = 5 then .mk 5 0 noT (backL kids (d + 1)) ((List.range kids.length).map (nameOf names)) else .mk 9 0 noT [] []
def backL : List Nd → Nat → List Nd
  | [], _ => []
  | x :: l, d => ndBack x d :: backL l d
end
theorem backL_map (d : Nat) : ∀ l, backL l d = l.map fun x => ndBack x d
  | [] => by rw [backL]; rfl
  | x :: l => by rw [backL, backL_map d l]; rfl
theorem step_hold {P : Program} {ops : Array Oper} {o : Oper} {a : Act} {K : Act → World → Prop} {Q : Exit → Act → World → Prop} {E : Prop} {w0 w : World} {L : List (Nat × Array Value)} (hgd : o.guard = none) (s x : Operand) (t e : TypeId) (ho : o.op = .call { callee := .builtin .append, args := #[s, x], argTypes := #[t, t] }) (sz : Nat) (hG : Grows P t e sz)
    (b : Option Addr) (n c : Nat) (cells : Nat → Array Value) (B : List (Nat × Array Value)) (hH : Hold sz b n c cells B) (hs : a.eval s = .slice b n c) (h m : Nat) (cs : Array Value) (hx : a.eval x = .slice (some ⟨h, 0, none⟩) 1 m) (hcs : cs.size = sz) (h1c : oneCells cs = true) (hC : St w0 ((h, cs) :: (B ++ L)) w) (hbig : n + 1 ≤ 2 ^ 30)
    (cells' : Nat → Array Value) (h3 : ∀ i, i < n → cells' i = cells i) (h4 : cells' n = cs)
    (k : ∀ b' c' B' w', Hold sz b' (n + 1) c' cells' B' → St w0 (B' ++ L) w' → K (a.put o.dst (.slice b' (n + 1) c')) w') :
    if Region.wanted o (yielded ops a.tmps) = true then Oper.wp P o a w K Q else E := by
  have hw : Region.wanted o (yielded ops a.tmps) = true := by simp [Region.wanted, hgd]
  rw [if_pos hw]
  obtain ⟨b', c', B', w', hrun, h1, h2⟩ := run_hold (P := P) w t o.type e sz hG b n c cells B hH h m cs hcs h1c hC hbig cells' h3 h4
  unfold Oper.wp execOp
  simp only [ho, resolve, invoke, builtin, Sem.run_bind, Sem.run_pure, Result.andThen_ok, List.map_toArray, List.map_cons, List.map_nil, hs, hx, hrun]
  exact k b' c' B' w' h1 h2
def Backed (w : World) (y : Nd) (r : Ending) (w' : World) : Prop := ∃ c L, r = .returned (.agg (ndC c)) ∧ NodeIn L c y ∧ St w L w'
theorem bk_results {w0 W : World} {L : List (Nat × Array Value)} {c : NdC} (g : Nat) (tmps : Array Value) (h4 : tmps.getD 4 undef = .pointer (some ⟨g, 0, none⟩)) (hC : St w0 ((g, ndC c) :: L) W) :
    (results Try.f18 tmps).run Try.prog W = .ok (.agg (ndC c)) W := by
  obtain ⟨_, r4, _, i4⟩ := hC.rows (g, ndC c) (.head _)
  exact results_row rfl tmps g h4 (ndC c) r4 (agg_nd W) (by rw [ndC_size]; exact size_nd W) i4
theorem bk_ends {w W : World} {c : NdC} {L : List (Nat × Array Value)} {y : Nd} {a : Act} (hd : a.defers = []) (h4 : a.tmps.getD 4 undef = .pointer (some ⟨w.heap.size, 0, none⟩)) (hC : St w ((w.heap.size, ndC c) :: L) W) (hx : NodeIn L c y) :
    bodyPost Try.prog Try.f18 (Backed w y) .ret a W :=
  bodyPost_ret (bk_results _ _ h4 hC) hd ⟨c, L, rfl, hx, hC.tail⟩
theorem build_node (c z : NdC) : Array.foldl (fun (cs : Array Value) (x : Value × Nat) => cs.setIfInBounds x.snd x.fst) #[.int .u8 (z.k : Int), .int .u64 (z.n : Int), .string z.s, .slice z.ka z.kn z.kc, .slice z.na z.nn z.nc] (ndC c).zipIdx 0 5 = ndC c := by simp [ndC]
theorem build_node2 (c z : NdC) : Array.foldl (fun (cs : Array Value) (x : Value × Nat) => cs.setIfInBounds x.snd x.fst) (ndC z) (ndC c).zipIdx 0 5 = ndC c := by simp [ndC]
attribute [local go_sem] build_node build_node2
inductive BpSt (w : World) (d : Nat) (kids : List Nd) (names : List ByteArray) (g : Nat) (j : Nat) (wr : World) : Prop
  | mk (ka : Option Addr) (kc : Nat) (na : Option Addr) (nc : Nat) (cs : Nat → NdC) (Bk Bn L' : List (Nat × Array Value)) (hk : Hold 5 ka j kc (fun i => ndC (cs i)) Bk) (hn : Hold 1 na j nc (fun i => #[.string (nameOf names i)]) Bn) (h4 : ∀ i, i < j → ∀ h : i < kids.length, NodeIn L' (cs i) (ndBack kids[i] (d + 1)))
      (hC : St w ((g, ndC ⟨5, 0, ⟨#[]⟩, ka, j, kc, na, j, nc⟩) :: (w.heap.size, ndC ndZero) :: (Bk ++ (Bn ++ L'))) wr) : BpSt w d kids names g j wr
theorem nameOf_range (names : List ByteArray) (i : Nat) {j : Nat} (h : i < j) : nameOf ((List.range j).map (nameOf names)) i = nameOf names i := by
  conv => lhs; unfold nameOf
  rw [List.getD_eq_getElem?_getD, List.getElem?_map, List.getElem?_range h]
  rfl
theorem back_more {L L2 : List (Nat × Array Value)} {cs : Nat → NdC} {kids : List Nd} {d j : Nat} {c : NdC} (h : ∀ i, i < j → ∀ h : i < kids.length, NodeIn L (cs i) (ndBack kids[i] d)) (hj : j < kids.length) (hv : NodeIn L2 c (ndBack kids[j] d)) : ∀ i, i < j + 1 → ∀ h : i < kids.length, NodeIn (L2 ++ L) (if i = j then c else cs i) (ndBack kids[i] d) := fun i hi hk => by
  by_cases e : i = j
  · subst e
    rw [if_pos rfl]
    exact hv.mono fun x hx => List.mem_append.2 (.inl hx)
  · rw [if_neg e]
    exact (h i (by omega) hk).mono fun x hx => List.mem_append.2 (.inr hx)
inductive BkSt (w : World) (k d : Nat) (kids : List Nd) (g : Nat) (j : Nat) (wr : World) : Prop
  | mk (ka : Option Addr) (kc : Nat) (cs : Nat → NdC) (Bk L' : List (Nat × Array Value)) (hk : Hold 5 ka j kc (fun i => ndC (cs i)) Bk) (h4 : ∀ i, i < j → ∀ h : i < kids.length, NodeIn L' (cs i) (ndBack kids[i] (d + 1)))
      (hC : St w ((g, ndC ⟨k, 0, ⟨#[]⟩, ka, j, kc, none, 0, 0⟩) :: (w.heap.size, ndC ndZero) :: (Bk ++ L')) wr) : BkSt w k d kids g j wr
set_option maxRecDepth 100000 in
set_option maxHeartbeats 4000000 in
theorem back_any : ∀ (x : Nd), Small x → ∀ (d : Nat), d ≤ 9 → ∀ (v : Value) (w : World), AnyAt w v x → Calls Try.prog 18 #[v, .int .i64 (d : Int)] w (Backed w (ndBack x d)) := by
  refine Nd.ind fun k n s kids names ih => ?_
  intro hs d hd v w hv
  have hnz := ndC_zero
  have HC := Lib.hid ((St.nil w).push (ndC ndZero) 26)
  have d9 : (d : Int) ≤ 9 := by omega
  rw [ndBack]
  by_cases h8 : 8 < d
  · rw [if_pos h8]
    have d8 : (8 : Int) < (d : Int) := by omega
    have hb : (ndC ndZero).setIfInBounds 0 (.int .u8 9) = ndC ⟨9, 0, ⟨#[]⟩, none, 0, 0, none, 0, 0⟩ := ndC_set0 ndZero 9
    clear hv ih hs hd h8
    (go_enter Try.func18, Try.ntmps18
     (obtain ⟨r1, f1, i1, b1, l1⟩ := St.facts1 (HC.out.pick [0] (by decide) rfl))
     go_wp2_with fail
     (clear r1 f1 i1 b1 l1)
     refine bk_ends rfl rfl ((St.nil w).push _ 26) ?_)
    exact NodeIn.nil [] 9 0 noT (by decide) (by decide)
  rw [if_neg h8]
  have d8 : ¬ (8 : Int) < (d : Int) := by omega
  cases hv with
  | nil _ _ _ _ =>
    rw [if_pos rfl]
    clear ih hs hd h8
    (go_enter Try.func18, Try.ntmps18
     (obtain ⟨r1, f1, i1, b1, l1⟩ := St.facts1 (HC.out.pick [0] (by decide) rfl))
     go_wp2_with fail
     (clear r1 f1 i1 b1 l1)
     refine bk_ends rfl rfl ((St.nil w).push _ 26) ?_)
    exact NodeIn.nil [] 0 0 noT (by decide) (by decide)
  | bool _ _ _ _ =>
    rw [if_neg (by decide), if_pos rfl]
    by_cases hn : n = 1
    · rw [if_pos hn]
      have hb : ((ndC ndZero).setIfInBounds 0 (.int .u8 1)).setIfInBounds 1 (.int .u64 1) = ndC ⟨1, 1, ⟨#[]⟩, none, 0, 0, none, 0, 0⟩ := ndC_bool 1
      have e1 : decide (n = 1) = true := decide_eq_true hn
      clear ih hs hd h8 hn
      rw [e1]
      (go_enter Try.func18, Try.ntmps18
       (obtain ⟨r1, f1, i1, b1, l1⟩ := St.facts1 (HC.out.pick [0] (by decide) rfl))
       go_wp2_with fail
       (clear r1 f1 i1 b1 l1)
       refine bk_ends rfl rfl ((St.nil w).push _ 26) ?_)
      exact NodeIn.nil [] 1 1 noT (by decide) (by decide)
    · rw [if_neg hn]
      have hb : (ndC ndZero).setIfInBounds 0 (.int .u8 1) = ndC ⟨1, 0, ⟨#[]⟩, none, 0, 0, none, 0, 0⟩ := ndC_set0 ndZero 1
      have e1 : decide (n = 1) = false := decide_eq_false hn
      clear ih hs hd h8 hn
      rw [e1]
      (go_enter Try.func18, Try.ntmps18
       (obtain ⟨r1, f1, i1, b1, l1⟩ := St.facts1 (HC.out.pick [0] (by decide) rfl))
       go_wp2_with fail
       (clear r1 f1 i1 b1 l1)
       refine bk_ends rfl rfl ((St.nil w).push _ 26) ?_)
      exact NodeIn.nil [] 1 0 noT (by decide) (by decide)
  | num _ _ _ _ hn =>
    rw [if_neg (by decide), if_neg (by decide), if_pos rfl]
    have hb := ndC_num n
    have HN := Lib.hid hn
    clear ih hs hd h8 hn
    (go_enter Try.func18, Try.ntmps18
     (obtain ⟨r1, f1, i1, b1, l1⟩ := St.facts1 (HC.out.pick [0] (by decide) rfl))
     go_wp2_with fail
     (clear r1 f1 i1 b1 l1)
     refine bk_ends rfl rfl ((St.nil w).push _ 26) ?_)
    exact NodeIn.nil [] 2 n noT (by decide) HN.out
  | text _ _ _ _ =>
    rw [if_neg (by decide), if_neg (by decide), if_neg (by decide), if_pos rfl]
    have hb := ndC_text s
    clear ih hs hd h8
    (go_enter Try.func18, Try.ntmps18
     (obtain ⟨r1, f1, i1, b1, l1⟩ := St.facts1 (HC.out.pick [0] (by decide) rfl))
     go_wp2_with fail
     (clear r1 f1 i1 b1 l1)
     refine bk_ends rfl rfl ((St.nil w).push _ 26) ?_)
    exact NodeIn.nil [] 3 0 s (by decide) (by decide)
  | list _ _ _ _ a c vs h3 h4 =>
    rw [if_neg (by decide), if_neg (by decide), if_neg (by decide), if_neg (by decide), if_pos rfl]
    have hkl : kids.length ≤ 70 := by cases hs; assumption
    have hs5 : ∀ x ∈ kids, Small x := by cases hs; assumption
    have HI := Lib.hid (fun j (h : j < kids.length) w' (hb : Below w.heap.size w w') => ih kids[j] (List.getElem_mem h) (hs5 _ (List.getElem_mem h)) (d + 1) (by omega) (vs j) w' ((h4 j h).call hb (Nat.le_refl _)))
    have hb : (ndC ndZero).setIfInBounds 0 (.int .u8 4) = ndC ⟨4, 0, ⟨#[]⟩, none, 0, 0, none, 0, 0⟩ := ndC_set0 ndZero 4
    obtain ⟨kl, hk⟩ : ∃ kl, kids.length = kl := ⟨_, rfl⟩
    have HK := Lib.hid hk
    rw [hk] at h3 hkl ⊢
    have H3 := Lib.hid h3
    have H4 := Lib.hid h4
    have kl70 : (kl : Int) ≤ 70 := by omega
    have ed : ((d + 1 : Nat) : Int) = (d : Int) + 1 := by omega
    have hwd : IntKind.i64.wrap ((d : Int) + 1) = (d : Int) + 1 := IntWalk.i64_in _ (by omega)
    rw [ed] at HI
    clear h3 h4 ih hs5 hs hk hd h8 HC
    go_enter Try.func18, Try.ntmps18
    go_upto_region 21 with fail
    have HC := Lib.hid (((St.nil w).push (ndC ndZero) 26).pushA (ndC ⟨4, 0, ⟨#[]⟩, none, 0, 0, none, 0, 0⟩) 26 (g := w.heap.size + 1) (by simp))
    generalize (w.alloc (Obj.cells (ndC ndZero) 26)).alloc (Obj.cells (ndC ⟨4, 0, ⟨#[]⟩, none, 0, 0, none, 0, 0⟩) 26) = w1 at HC ⊢
    go_wp2_with fail
    go_loopw [11] (fun i wr => ∃ j : Nat, j ≤ kl ∧ i = .int .i64 (j : Int) ∧ Hid (BkSt w 4 d kids (w.heap.size + 1) j wr)) (fun i _ => kl - (intOf i).toNat)
    case atStart => exact ⟨0, by omega, rfl, Lib.hid (.mk none 0 (fun _ => ndZero) [] [] (.nil _) (fun i h => by omega) HC.out)⟩
    case round =>
      clear HC
      obtain ⟨j, hj, rfl, HJ⟩ := hrel
      obtain ⟨ka, kc, cs, Bk, L', hk, h4, hC⟩ := HJ.out
      have HC := Lib.hid hC
      have HH := Lib.hid hk
      have HX := Lib.hid h4
      clear HJ hC hk h4
      by_cases hlt : j < kl
      · have d6 : (j : Int) < (kl : Int) := by omega
        have hjn : j < kids.length := by rw [HK.out]; exact hlt
        have KK := Lib.hid (HI.out j hjn)
        have HJN := Lib.hid hjn
        obtain ⟨ad, rfl⟩ := H3.out.some j hlt
        have hl := ((H3.out.call HC.out.below (Nat.le_refl _)).at j hlt)
        rw [Nat.mul_one] at hl
        have k1 := hl.2.1
        have k2 := hl.first (by omega)
        rw [show (#[vs j] : Array Value)[0]? = some (vs j) from rfl] at k2
        clear hl
        go_upto_region 24 with fail
        (obtain ⟨r1, f1, i1, b1, l1⟩ := St.facts1 (HC.out.pick [0] (by decide) rfl))
        go_region_law (first
          | (go_simp; go_at_call 18; refine (KK.out _ HC.out.drew.below).mono ?_; rintro r0 w7 ⟨c1, L2, rfl, hx, hS⟩; have HC := Lib.hid ((HC.out.drew.joins hS).perm (L' := (w.heap.size + 1, ndC ⟨4, 0, ⟨#[]⟩, ka, j, kc, none, 0, 0⟩) :: (w.heap.size, ndC ndZero) :: (Bk ++ (L2 ++ L'))) (perm_of fun _ _ c1 c2 c3 => by simp only [c1, c2]; omega)); have HN := Lib.hid hx; clear hx hS r1 f1 i1 b1 l1; obtain ⟨r1, f1, i1, b1, l1⟩ := St.facts1 (HC.out.pick [0] (by decide) rfl); have n1 := eq_false (Nat.ne_of_lt l1))
          | (have hA := ((HC.out.push (ndC c1) 26).perm (L' := (w7.heap.size, ndC c1) :: (Bk ++ ((w.heap.size + 1, ndC ⟨4, 0, ⟨#[]⟩, ka, j, kc, none, 0, 0⟩) :: (w.heap.size, ndC ndZero) :: (L2 ++ L')))) (perm_of fun _ _ c1 c2 c3 => by simp only [c1, c2]; omega)); refine step_hold (w0 := w) (L := (w.heap.size + 1, ndC ⟨4, 0, ⟨#[]⟩, ka, j, kc, none, 0, 0⟩) :: (w.heap.size, ndC ndZero) :: (L2 ++ L')) ?_ (.tmp 48) (.tmp 56) 23 26 ?_ 5 grows_node ka j kc (fun i => ndC (cs i)) Bk HH.out ?_ w7.heap.size 1 (ndC c1) ?_ (ndC_size _) (ndC_one _) hA (by omega) (fun i => ndC (if i = j then c1 else cs i)) (fun i hi => by rw [if_neg (by omega)]) (by rw [if_pos rfl]) ?_; rfl; rfl; rfl; rfl; intro b' c' B' w8 hH' hC'; have HC2 := Lib.hid (hC'.perm (L' := (w.heap.size + 1, ndC ⟨4, 0, ⟨#[]⟩, ka, j, kc, none, 0, 0⟩) :: (w.heap.size, ndC ndZero) :: (B' ++ (L2 ++ L'))) (perm_of fun _ _ c1 c2 c3 => by simp only [c1, c2]; omega)); have HH2 := Lib.hid hH'; clear hA hC' hH' r1 f1 i1 b1 l1 n1; obtain ⟨r1, f1, i1, b1, l1⟩ := St.facts1 (HC2.out.pick [0] (by decide) rfl)))
        all_goals
          clear k1 k2 r1 f1 i1 b1 l1
          have HC := Lib.hid (HC2.out.set_head (ndC ⟨4, 0, ⟨#[]⟩, b', j + 1, c', none, 0, 0⟩) (by simp only [ndC_size]))
          generalize w8.setRow (w.heap.size + 1) (ndC ⟨4, 0, ⟨#[]⟩, b', j + 1, c', none, 0, 0⟩) = w9 at HC ⊢
          go_wp2_with fail
          go_roundw
          case rel => exact ⟨j + 1, by omega, by go_num, Lib.hid (.mk b' c' (fun i => if i = j then c1 else cs i) B' (L2 ++ L') HH2.out (back_more HX.out HJN.out HN.out) HC.out)⟩
          case measure => simp [intOf]; omega
      · obtain rfl : j = kl := by omega
        (obtain ⟨⟨r1, f1, i1, b1, l1⟩, ⟨r2, f2, i2, b2, l2⟩, m12, m21⟩ := St.facts2 (HC.out.pick [0, 1] (by decide) rfl))
        go_wp2_with fail
        (clear r1 f1 i1 b1 l1 r2 f2 i2 b2 l2 m12 m21)
        refine bk_ends rfl rfl (HC.out.swap.set_head (ndC ⟨4, 0, ⟨#[]⟩, ka, j, kc, none, 0, 0⟩) (by simp only [ndC_size])) ?_
        have hl : (backL kids (d + 1)).length = j := by rw [backL_map, List.length_map]; exact HK.out
        have k := NodeIn.mk (L := (w.heap.size + 1, ndC ⟨4, 0, ⟨#[]⟩, ka, j, kc, none, 0, 0⟩) :: (Bk ++ L')) ⟨4, 0, noT, ka, (backL kids (d + 1)).length, kc, none, 0, 0⟩ (backL kids (d + 1)) [] cs (show 4 < 256 by decide) (show 0 < 18446744073709551616 by decide) rfl rfl (by rw [hl]; exact HH.out.in fun x hx => .tail _ (List.mem_append.2 (.inl hx))) (fun i hi => by
          have hi2 : i < kids.length := by rw [hl] at hi; rw [HK.out]; exact hi
          have e : (backL kids (d + 1))[i] = ndBack kids[i] (d + 1) := by simp only [backL_map, List.getElem_map]
          rw [e]
          exact (HX.out i (by rw [hl] at hi; exact hi) hi2).mono fun x hx => .tail _ (List.mem_append.2 (.inr hx))) (.inl ⟨rfl, rfl, rfl⟩)
        rw [hl] at k
        exact k
  | pairs _ _ _ _ a c vs h3 h4 =>
    rw [if_neg (by decide), if_neg (by decide), if_neg (by decide), if_neg (by decide), if_neg (by decide), if_pos rfl]
    have hkl : kids.length ≤ 70 := by cases hs; assumption
    have hs5 : ∀ x ∈ kids, Small x := by cases hs; assumption
    have HI := Lib.hid (fun j (h : j < kids.length) w' (hb : Below w.heap.size w w') => ih kids[j] (List.getElem_mem h) (hs5 _ (List.getElem_mem h)) (d + 1) (by omega) (vs j) w' ((h4 j h).call hb (Nat.le_refl _)))
    have hb : (ndC ndZero).setIfInBounds 0 (.int .u8 5) = ndC ⟨5, 0, ⟨#[]⟩, none, 0, 0, none, 0, 0⟩ := ndC_set0 ndZero 5
    obtain ⟨kl, hk⟩ : ∃ kl, kids.length = kl := ⟨_, rfl⟩
    have HK := Lib.hid hk
    rw [hk] at h3 hkl ⊢
    have H3 := Lib.hid h3
    have H4 := Lib.hid h4
    have kl70 : (kl : Int) ≤ 70 := by omega
    have ed : ((d + 1 : Nat) : Int) = (d : Int) + 1 := by omega
    have hwd : IntKind.i64.wrap ((d : Int) + 1) = (d : Int) + 1 := IntWalk.i64_in _ (by omega)
    rw [ed] at HI
    clear h3 h4 ih hs5 hs hk hd h8 HC
    go_enter Try.func18, Try.ntmps18
    go_upto_region 29 with fail
    have HC := Lib.hid (((St.nil w).push (ndC ndZero) 26).pushA (ndC ⟨5, 0, ⟨#[]⟩, none, 0, 0, none, 0, 0⟩) 26 (g := w.heap.size + 1) (by simp))
    generalize (w.alloc (Obj.cells (ndC ndZero) 26)).alloc (Obj.cells (ndC ⟨5, 0, ⟨#[]⟩, none, 0, 0, none, 0, 0⟩) 26) = w1 at HC ⊢
    go_wp2_with fail
    go_loopw [14] (fun i wr => ∃ j : Nat, j ≤ kl ∧ i = .int .i64 (j : Int) ∧ Hid (BpSt w d kids names (w.heap.size + 1) j wr)) (fun i _ => kl - (intOf i).toNat)
    case atStart => exact ⟨0, by omega, rfl, Lib.hid (.mk none 0 none 0 (fun _ => ndZero) [] [] [] (.nil _) (.nil _) (fun i h => by omega) HC.out)⟩
    case round =>
      clear HC
      obtain ⟨j, hj, rfl, HJ⟩ := hrel
      obtain ⟨ka, kc, na, nc, cs, Bk, Bn, L', hk, hnm, h4, hC⟩ := HJ.out
      have HC := Lib.hid hC
      have HH := Lib.hid hk
      have HM := Lib.hid hnm
      have HX := Lib.hid h4
      clear HJ hC hk h4 hnm
      by_cases hlt : j < kl
      · have d6 : (j : Int) < (kl : Int) := by omega
        have hjn : j < kids.length := by rw [HK.out]; exact hlt
        have KK := Lib.hid (HI.out j hjn)
        have HJN := Lib.hid hjn
        obtain ⟨ad, rfl⟩ := H3.out.some j hlt
        have HLD := Lib.hid (fun w' (hb : Below w.heap.size w w') => (H3.out.call hb (Nat.le_refl _)).at j hlt)
        obtain ⟨t, ht⟩ : ∃ t, nameOf names j = t := ⟨_, rfl⟩
        have HT := Lib.hid ht
        rw [ht] at HLD
        clear ht
        have hl := HLD.out _ HC.out.below
        have k1 := hl.2.1
        have k2 := hl.first (by omega)
        rw [pairC_get0] at k2
        clear hl
        go_upto_region 32 with fail
        (obtain ⟨r1, f1, i1, b1, l1⟩ := St.facts1 (HC.out.pick [0] (by decide) rfl))
        have n1 := eq_false (Nat.ne_of_lt l1)
        have hA := (((HC.out.push #[.string t] 9).perm (L' := (wr.heap.size, #[.string t]) :: (Bn ++ ((w.heap.size + 1, ndC ⟨5, 0, ⟨#[]⟩, ka, j, kc, na, j, nc⟩) :: (w.heap.size, ndC ndZero) :: (Bk ++ L')))) (perm_of fun _ _ c1 c2 c3 => by simp only [c1, c2]; omega))).drew
        go_region_law (refine step_hold (w0 := w) (L := (w.heap.size + 1, ndC ⟨5, 0, ⟨#[]⟩, ka, j, kc, na, j, nc⟩) :: (w.heap.size, ndC ndZero) :: (Bk ++ L')) ?_ (.tmp 71) (.tmp 77) 24 9 ?_ 1 grows_text na j nc (fun i => #[.string (nameOf names i)]) Bn HM.out ?_ wr.heap.size 1 #[.string t] ?_ rfl (by simp [oneCells, Value.oneCell']) hA (by omega) (fun i => #[.string (nameOf names i)]) (fun i hi => rfl) (by rw [HT.out]) ?_; rfl; rfl; rfl; rfl; intro bn cn Bn' w8 hH' hC'; have HC2 := Lib.hid (hC'.perm (L' := (w.heap.size + 1, ndC ⟨5, 0, ⟨#[]⟩, ka, j, kc, na, j, nc⟩) :: (w.heap.size, ndC ndZero) :: (Bk ++ (Bn' ++ L'))) (perm_of fun _ _ c1 c2 c3 => by simp only [c1, c2]; omega)); have HMN := Lib.hid hH'; clear hA hC' hH' r1 f1 i1 b1 l1 n1; obtain ⟨r1, f1, i1, b1, l1⟩ := St.facts1 (HC2.out.pick [0] (by decide) rfl))
        all_goals
          clear k1 k2 r1 f1 i1 b1 l1
          have HC := Lib.hid (HC2.out.set_head (ndC ⟨5, 0, ⟨#[]⟩, ka, j, kc, bn, j + 1, cn⟩) (by simp only [ndC_size]))
          generalize w8.setRow (w.heap.size + 1) (ndC ⟨5, 0, ⟨#[]⟩, ka, j, kc, bn, j + 1, cn⟩) = w9 at HC ⊢
          clear HC2 HM
          have hl := HLD.out _ HC.out.below
          have k1 := hl.2.1
          have k2 := hl.2.2 1 (by omega)
          rw [pairC_get1] at k2
          clear hl
          go_upto_region 33 with fail
          (obtain ⟨r1, f1, i1, b1, l1⟩ := St.facts1 (HC.out.pick [0] (by decide) rfl))
          go_region_law (first
            | (go_simp; go_at_call 18; refine (KK.out _ HC.out.drew.below).mono ?_; rintro r0 w7 ⟨c1, L2, rfl, hx, hS⟩; have HC := Lib.hid ((HC.out.drew.joins hS).perm (L' := (w.heap.size + 1, ndC ⟨5, 0, ⟨#[]⟩, ka, j, kc, bn, j + 1, cn⟩) :: (w.heap.size, ndC ndZero) :: (Bk ++ (Bn' ++ (L2 ++ L')))) (perm_of fun _ _ c1 c2 c3 => by simp only [c1, c2]; omega)); have HN := Lib.hid hx; clear hx hS r1 f1 i1 b1 l1; obtain ⟨r1, f1, i1, b1, l1⟩ := St.facts1 (HC.out.pick [0] (by decide) rfl); have n1 := eq_false (Nat.ne_of_lt l1))
            | (have hA := ((HC.out.push (ndC c1) 26).perm (L' := (w7.heap.size, ndC c1) :: (Bk ++ ((w.heap.size + 1, ndC ⟨5, 0, ⟨#[]⟩, ka, j, kc, bn, j + 1, cn⟩) :: (w.heap.size, ndC ndZero) :: (Bn' ++ (L2 ++ L'))))) (perm_of fun _ _ c1 c2 c3 => by simp only [c1, c2]; omega)); refine step_hold (w0 := w) (L := (w.heap.size + 1, ndC ⟨5, 0, ⟨#[]⟩, ka, j, kc, bn, j + 1, cn⟩) :: (w.heap.size, ndC ndZero) :: (Bn' ++ (L2 ++ L'))) ?_ (.tmp 81) (.tmp 90) 23 26 ?_ 5 grows_node ka j kc (fun i => ndC (cs i)) Bk HH.out ?_ w7.heap.size 1 (ndC c1) ?_ (ndC_size _) (ndC_one _) hA (by omega) (fun i => ndC (if i = j then c1 else cs i)) (fun i hi => by rw [if_neg (by omega)]) (by rw [if_pos rfl]) ?_; rfl; rfl; rfl; rfl; intro b' c' B' w10 hH' hC'; have HC2 := Lib.hid (hC'.perm (L' := (w.heap.size + 1, ndC ⟨5, 0, ⟨#[]⟩, ka, j, kc, bn, j + 1, cn⟩) :: (w.heap.size, ndC ndZero) :: (B' ++ (Bn' ++ (L2 ++ L')))) (perm_of fun _ _ c1 c2 c3 => by simp only [c1, c2]; omega)); have HH2 := Lib.hid hH'; clear hA hC' hH' r1 f1 i1 b1 l1 n1; obtain ⟨r1, f1, i1, b1, l1⟩ := St.facts1 (HC2.out.pick [0] (by decide) rfl)))
          all_goals
            clear k1 k2 r1 f1 i1 b1 l1
            have HC := Lib.hid (HC2.out.set_head (ndC ⟨5, 0, ⟨#[]⟩, b', j + 1, c', bn, j + 1, cn⟩) (by simp only [ndC_size]))
            generalize w10.setRow (w.heap.size + 1) (ndC ⟨5, 0, ⟨#[]⟩, b', j + 1, c', bn, j + 1, cn⟩) = w11 at HC ⊢
            go_wp2_with fail
            go_roundw
            case rel => exact ⟨j + 1, by omega, by go_num, Lib.hid (.mk b' c' bn cn (fun i => if i = j then c1 else cs i) B' Bn' (L2 ++ L') HH2.out HMN.out (back_more HX.out HJN.out HN.out) HC.out)⟩
            case measure => simp [intOf]; omega
      · obtain rfl : j = kl := by omega
        (obtain ⟨⟨r1, f1, i1, b1, l1⟩, ⟨r2, f2, i2, b2, l2⟩, m12, m21⟩ := St.facts2 (HC.out.pick [0, 1] (by decide) rfl))
        go_wp2_with fail
        (clear r1 f1 i1 b1 l1 r2 f2 i2 b2 l2 m12 m21)
        refine bk_ends rfl rfl (HC.out.swap.set_head (ndC ⟨5, 0, ⟨#[]⟩, ka, j, kc, na, j, nc⟩) (by simp only [ndC_size])) ?_
        have hl : (backL kids (d + 1)).length = j := by rw [backL_map, List.length_map]; exact HK.out
        have hl2 : ((List.range j).map (nameOf names)).length = j := by rw [List.length_map, List.length_range]
        have k := NodeIn.mk (L := (w.heap.size + 1, ndC ⟨5, 0, ⟨#[]⟩, ka, j, kc, na, j, nc⟩) :: (Bk ++ (Bn ++ L'))) ⟨5, 0, noT, ka, (backL kids (d + 1)).length, kc, na, ((List.range j).map (nameOf names)).length, nc⟩ (backL kids (d + 1)) ((List.range j).map (nameOf names)) cs (show 5 < 256 by decide) (show 0 < 18446744073709551616 by decide) rfl rfl (by rw [hl]; exact HH.out.in fun x hx => .tail _ (List.mem_append.2 (.inl hx))) (fun i hi => by
          have hi2 : i < kids.length := by rw [hl] at hi; rw [HK.out]; exact hi
          have e : (backL kids (d + 1))[i] = ndBack kids[i] (d + 1) := by simp only [backL_map, List.getElem_map]
          rw [e]
          exact (HX.out i (by rw [hl] at hi; exact hi) hi2).mono fun x hx => .tail _ (List.mem_append.2 (.inr (List.mem_append.2 (.inr hx))))) (by
          rw [hl2]
          refine (HM.out.congr fun i hi => ?_).in fun x hx => .tail _ (List.mem_append.2 (.inr (List.mem_append.2 (.inl hx))))
          rw [nameOf_range names i hi])
        rw [hl, hl2] at k
        exact k
  | odd _ _ _ _ _ hk h2 =>
    rw [if_neg (by omega), if_neg (by omega), if_neg (by omega), if_neg (by omega), if_neg (by omega), if_neg (by omega)]
    have hb : (ndC ndZero).setIfInBounds 0 (.int .u8 9) = ndC ⟨9, 0, ⟨#[]⟩, none, 0, 0, none, 0, 0⟩ := ndC_set0 ndZero 9
    clear ih hs hd h8
    (go_enter Try.func18, Try.ntmps18
     (obtain ⟨r1, f1, i1, b1, l1⟩ := St.facts1 (HC.out.pick [0] (by decide) rfl))
     go_wp2_with fail
     (clear r1 f1 i1 b1 l1)
     refine bk_ends rfl rfl ((St.nil w).push _ 26) ?_)
    exact NodeIn.nil [] 9 0 noT (by decide) (by decide)
end Go.Proofs.Ytinlcpenllfcpaa
