/- The program's bytes: quill.Row, entry.row, put. -/
import Derived.Test.YtinlcpenllfcpaaEnByt
namespace Go.Proofs.Ytinlcpenllfcpaa
open Go.RowKit
attribute [local go_sem] B_xor B_or B_and
attribute [local go_sem] blk_set blk_size blk_get blk_getE upd_same oneCells_blk paste_blk cut_blk szOf
attribute [local go_sem high] paste_all cut_head
attribute [local go_sem] rowAt_alloc rowAt_drew rowAt_drewN isRow_alloc isRow_drew isRow_drewN freeRow_alloc freeRow_end freeRow_drew freeRow_drewN
attribute [local go_sem] setRow_alloc setRow_drew setRow_drewN setCell_drewN alloc_drewN rowAt_put isRow_setRow freeRow_put
attribute [local go_sem ↓] loadS_in storeS_in indexS_in copyS_in
attribute [local go_sem] loadS_row loadS_one storeS_row storeS_one indexS_blk copyS_rows run_equalIn_blk same_refl arrayAt_row
attribute [local go_sem] cell_row frozen_row st_setCell st_blk_ne stepAt stepUpon
attribute [local go_sem high] run_eql_blk run_neq_blk
attribute [local go_sem ↓] convBS_in
attribute [local go_sem] convBS_row convBS_nil allBytes_blk bytesOf_blk
attribute [local go_sem] run_make_bytes
attribute [local go_sem] pairC_size pairC_get0 pairC_get1 pairC_getE0 pairC_getE1 pairC_ne pairC_one pairC_cut pairC_paste pairC_set0 pairC_set1 size_pair agg_pair
attribute [local go_sem] as_bool_yes as_u64_yes as_text_yes as_list_yes as_pairs_yes as_text_must as_u64_must as_bool_no as_u64_no as_text_no as_list_no as_pairs_no as_bool_nil as_u64_nil as_text_nil as_list_nil as_pairs_nil

set_option maxRecDepth 100000 in
theorem grown_big (g m c k : Nat) (F : Nat → UInt8) (h8 : k ≤ 2 ^ 20) (hm : m ≤ c) (hb : m ≤ 2 ^ 30) (w0 w : World) (L : List (Nat × Array Value)) (hC : St w0 ((g, blk c F) :: L) w) : Calls Try.prog 54 #[.slice (some ⟨g, 0, none⟩) m c, .int .i64 (k : Int)] w (Laid w0 L m F) := by
  have HC := Lib.hid hC
  have d1 : m + k ≤ 2 ^ 40 := by omega
  have d2 : (m : Int) + (k : Int) ≤ 2000000000 := by omega
  have d3 : m ≤ m + k := by omega
  have d4 : (m : Int) + (k : Int) = ((m + k : Nat) : Int) := by push_cast; rfl
  have hmk : ∀ w : World, (Instr.makeSlice 30 (.int .i64 (m : Int)) (.int .i64 ((m : Int) + (k : Int)))).run Try.prog w = .ok (.slice (some ⟨w.heap.size, 0, none⟩) m (m + k)) (w.alloc (.cells (blk (m + k) fun _ => 0) 5)) := fun w => by
    rw [d4]; exact run_make_bytes .i64 .i64 m (m + k) d3 d1 w
  clear d4 hC
  have HP := Lib.hid (HC.out.push (blk (m + k) fun _ => 0) 5)
  go_enter Try.func54, Try.ntmps54
  go_wp2_with fail
  have hp := HP.out.get (List.mem_cons_self ..)
  have hg := HP.out.get (g := g) (cs := blk c F) (by simp)
  have hcp := copyS_rows (P := Try.prog) (w := w.alloc (.cells (blk (m + k) fun _ => 0) 5)) 30 30 3 w.heap.size 0 m (m + k) g 0 m c (by simp [go_sem]) (by simp [go_sem]) hp.2.2.1 hg.2.2.2 (by rw [hp.2.1, blk_size, Nat.min_self]; omega) (by rw [hg.2.1, blk_size, Nat.min_self]; omega) (by rw [hg.2.1, Nat.min_self, Nat.zero_add, cut_head _ _ _ hm]; exact oneCells_blk _ _)
  rw [hp.2.1, hg.2.1, Nat.min_self, Nat.zero_add, cut_head _ _ _ hm, paste_blk _ _ _ _ _ (by omega)] at hcp
  rw [hcp]
  have HP2 := Lib.hid (HC.out.tail.push (blk (m + k) (cpy (fun _ => 0) 0 F 0 m)) 5)
  clear hcp hp hg HP
  go_wp2_with fail
  go_ret
  refine Laid.mk _ _ _ rfl d3 (fun i hi => ?_) HP2.out
  unfold cpy
  rw [if_pos (by omega)]
  congr 1; omega
/-- a list of bytes behind others, in a block of the call's own; and with an error -/
def LaidL (w0 : World) (L : List (Nat × Array Value)) (m : Nat) (f : Nat → UInt8) (l : List UInt8) (e : Ending) (w : World) : Prop := ∃ g c F, e = .returned (.slice (some ⟨g, 0, none⟩) (m + l.length) c) ∧ m + l.length ≤ c ∧ (∀ i, i < m + l.length → F i = glue m f (atL l) i) ∧ St w0 ((g, blk c F) :: L) w
def LaidE (w0 : World) (L : List (Nat × Array Value)) (m : Nat) (f : Nat → UInt8) (l : List UInt8) (e : Ending) (w : World) : Prop := ∃ g c F, e = .returned (.tuple #[.slice (some ⟨g, 0, none⟩) (m + l.length) c, .int .i64 0]) ∧ m + l.length ≤ c ∧ (∀ i, i < m + l.length → F i = glue m f (atL l) i) ∧ St w0 ((g, blk c F) :: L) w
theorem row_glue {m n : Nat} {F F1 F2 F3 f : Nat → UInt8} {s : ByteArray} (h0 : ∀ i, i < m → F i = f i) (h1 : ∀ i, i < m → F1 i = F i) (h2 : ∀ i, i < m + 2 → F2 i = glue m F1 (beB s.size 2) i) (h3 : ∀ i, i < m + 2 + s.size → F3 i = glue (m + 2) F2 (ofText s) i) (hn : n = m + (rowL s).length) : ∀ i, i < n → F3 i = glue m f (atL (rowL s)) i := fun i hi => by
  rw [hn, rowL_len] at hi
  rw [h3 i (by omega)]
  have e := glue_app m f (beL 2 s.size) (txL s) i
  rw [beL_len] at e
  unfold rowL
  rw [← e]
  unfold glue
  by_cases h : i < m + 2
  · rw [if_pos h, if_pos h, h2 i h]
    unfold glue
    by_cases h' : i < m
    · rw [if_pos h', if_pos h', h1 i h', h0 i h']
    · rw [if_neg h', if_neg h', beL_at _ _ _ (by omega)]
  · rw [if_neg h, if_neg h, txL_at]
set_option maxRecDepth 100000 in
set_option maxHeartbeats 2000000 in
theorem quillRow_own (g m c : Nat) (F f : Nat → UInt8) (s : ByteArray) (hs : s.size ≤ 65535) (hm : m ≤ c) (hF : ∀ i, i < m → F i = f i) (hb : m + (rowL s).length ≤ 2 ^ 30) (w0 w : World) (L : List (Nat × Array Value)) (hC : St w0 ((g, blk c F) :: L) w) :
    Calls Try.prog 56 #[.slice (some ⟨g, 0, none⟩) m c, .string s] w (LaidE w0 L m f (rowL s)) := by
  rw [rowL_len] at hb
  have HC := Lib.hid hC
  have HF := Lib.hid hF
  have HM := Lib.hid hm
  have d1 : decide (65535 < (s.size : Int)) = false := decide_eq_false (by omega)
  have s6 : (s.size : Int) ≤ 65535 := by omega
  have G1 := Lib.hid (fun w (h : St w0 ((g, blk c F) :: L) w) => grown_big g m c (2 + s.size) F (by omega) hm (by omega) w0 w L h)
  have v1 : ((2 + s.size : Nat) : Int) = 2 + (s.size : Int) := by omega
  rw [v1] at G1
  clear hC hF hm v1
  go_enter Try.func56, Try.ntmps56
  go_wp2_with fail
  refine (G1.out _ HC.out).mono ?_; rintro e w1 ⟨g1, c1, F1, rfl, x1, x2, x3⟩
  have HC := Lib.hid x3
  have X1 := Lib.hid x1
  have X2 := Lib.hid x2
  clear x1 x2 x3 G1
  go_wp2_with fail
  refine (lay_any g1 m c1 2 s.size F1 (by omega) (by omega) X1.out (by omega) w0 _ L HC.out).mono ?_; rintro e w2 ⟨g2, c2, F2, rfl, y1, y2, y3⟩
  have HC := Lib.hid y3
  have Y1 := Lib.hid y1
  have Y2 := Lib.hid y2
  clear y1 y2 y3
  go_wp2_with (at_builtin; refine stop_list ?_)
  refine wpList_append_text (w0 := w0) rfl (.tmp 19) (.tmp 20) rfl g2 (m + 2) c2 F2 rfl HC.out Y1.out s rfl (by omega) ?_
  intro g3 c3 F3 w3 z1 z2 z3
  have HC := Lib.hid z3
  have Z1 := Lib.hid z1
  have Z2 := Lib.hid z2
  clear z1 z2 z3
  obtain ⟨n, hn⟩ : ∃ n, m + 2 + s.size = n := ⟨_, rfl⟩
  have HN := Lib.hid (show n = m + (rowL s).length by rw [rowL_len]; omega)
  rw [hn]
  rw [hn] at Z1
  clear hn
  go_wp2_with fail
  go_ret2
  refine ⟨g3, c3, F3, (by rw [HN.out]; rfl), by rw [← HN.out]; exact Z1.out, ?_, HC.out⟩
  rw [← HN.out]
  exact row_glue HF.out X2.out Y2.out Z2.out HN.out
set_option maxRecDepth 100000 in
theorem row10_own (g m c : Nat) (F f : Nat → UInt8) (s : ByteArray) (hs : s.size ≤ 65535) (hm : m ≤ c) (hF : ∀ i, i < m → F i = f i) (hb : m + (rowL s).length ≤ 2 ^ 30) (w0 w : World) (L : List (Nat × Array Value)) (hC : St w0 ((g, blk c F) :: L) w) :
    Calls Try.prog 40 #[.slice (some ⟨g, 0, none⟩) m c, .string s] w (LaidL w0 L m f (rowL s)) := by
  have K := Lib.hid (quillRow_own g m c F f s hs hm hF hb w0 w L hC)
  clear hs hm hF hb hC
  go_enter Try.func40, Try.ntmps40
  go_wp2_with fail
  refine K.out.mono ?_; rintro e w1 ⟨g1, c1, F1, rfl, x1, x2, x3⟩
  have HC := Lib.hid x3
  have X1 := Lib.hid x1
  have X2 := Lib.hid x2
  clear x1 x2 x3
  go_wp2_with fail
  go_ret
  exact ⟨g1, c1, F1, rfl, X1.out, X2.out, HC.out⟩
theorem putL_app (p : Bool) (names : List ByteArray) : ∀ (a b : List Nd) (i : Nat), putL p names i (a ++ b) = putL p names i a ++ putL p names (i + a.length) b
  | [], b, i => by rw [List.nil_append, List.length_nil, Nat.add_zero]; conv => rhs; rw [putL, List.nil_append]
  | x :: a, b, i => by
    rw [List.cons_append, putL, putL, putL_app p names a b (i + 1), List.length_cons, show i + 1 + a.length = i + (a.length + 1) by omega]
    simp only [List.append_assoc]
theorem putL_take (p : Bool) (names : List ByteArray) (kids : List Nd) (j : Nat) (h : j < kids.length) : putL p names 0 (kids.take (j + 1)) = putL p names 0 (kids.take j) ++ ((if p = true then rowL (nameOf names j) else []) ++ ndPut kids[j]) := by
  have e : (kids.take j).length = j := by rw [List.length_take]; omega
  rw [List.take_succ_eq_append_getElem h, putL_app, e, Nat.zero_add, putL, putL, List.append_nil]
theorem putL_le (p : Bool) (names : List ByteArray) (kids : List Nd) (j : Nat) : (putL p names 0 (kids.take j)).length ≤ (putL p names 0 kids).length := by
  have h := putL_app p names (kids.take j) (kids.drop j) 0
  rw [List.take_append_drop] at h
  rw [h, List.length_append]
  omega
theorem glue_then {m : Nat} {f F1 F2 G : Nat → UInt8} {a b : List UInt8} (h1 : ∀ i, i < m + a.length → F1 i = glue m f (atL a) i) (hG : ∀ i, i < b.length → G i = atL b i) (h2 : ∀ i, i < m + a.length + b.length → F2 i = glue (m + a.length) F1 G i) : ∀ i, i < m + (a ++ b).length → F2 i = glue m f (atL (a ++ b)) i := fun i hi => by
  rw [List.length_append] at hi
  rw [h2 i (by omega), ← glue_app]
  unfold glue
  by_cases h : i < m + a.length
  · rw [if_pos h, if_pos h, h1 i h]; rfl
  · rw [if_neg h, if_neg h, hG _ (by omega)]
theorem two_row (k n : Nat) (hk : k ≤ 255) (hn : n ≤ 255) : #[Value.int .u8 (k : Int), .int .u8 (n : Int)] = blk [UInt8.ofNat k, UInt8.ofNat n].length (atL [UInt8.ofNat k, UInt8.ofNat n]) := by
  show _ = #[Value.int .u8 (B (UInt8.ofNat k)), .int .u8 (B (UInt8.ofNat n))]
  unfold B
  rw [UInt8.toNat_ofNat', UInt8.toNat_ofNat', Nat.mod_eq_of_lt (by omega), Nat.mod_eq_of_lt (by omega)]
/-- the bytes of a list so far -/
def preL (k cnt : Nat) (p : Bool) (names : List ByteArray) (kids : List Nd) (j : Nat) : List UInt8 := UInt8.ofNat k :: UInt8.ofNat cnt :: putL p names 0 (kids.take j)
set_option maxRecDepth 100000 in
set_option maxHeartbeats 4000000 in
theorem put_any : ∀ (x : Nd), Small x → ∀ (v bv : Value) (m : Nat) (f : Nat → UInt8) (w0 w : World) (L : List (Nat × Array Value)), AnyAt w0 v x → m + (ndPut x).length ≤ 2 ^ 30 → Byt w0 L bv m f w → Calls Try.prog 27 #[bv, v] w (LaidL w0 L m f (ndPut x)) := by
  refine Nd.ind fun k n s kids names ih => ?_
  intro hs v bv m f w0 w L h hb hB
  obtain ⟨ba, bc, rfl⟩ := hB.form
  have HB := Lib.hid hB
  clear hB
  cases h with
  | nil =>
    have e : ndPut (.mk 0 n s kids names) = [0] := by rw [ndPut, if_pos rfl]
    rw [e] at hb ⊢
    clear e ih hs
    go_enter Try.func27, Try.ntmps27
    go_wp2_with (at_builtin; refine stop_list ?_)
    refine wpList_append_few (w0 := w0) (L := L) (w := w) rfl (.tmp 85) (.tmp 86) rfl (.slice ba m bc) m f rfl HB.out w.heap.size 1 _ [0] rfl (by decide) rfl _ _ rfl rfl hb ?_
    intro g' c' F' w' x1 x2 x3
    have HC := Lib.hid x3
    have X1 := Lib.hid x1
    have X2 := Lib.hid x2
    clear x1 x2 x3
    (go_wp2_with fail
     go_ret
     exact ⟨g', c', F', rfl, X1.out, X2.out, HC.out⟩)
  | bool =>
    clear ih hs
    by_cases h1 : n = 1
    · have e : ndPut (.mk 1 n s kids names) = [2] := by rw [ndPut, if_neg (by omega), if_pos rfl, if_pos h1]
      rw [e] at hb ⊢
      rw [decide_eq_true h1]
      clear e h1
      go_enter Try.func27, Try.ntmps27
      go_wp2_with (at_builtin; refine stop_list ?_)
      refine wpList_append_few (w0 := w0) (L := L) (w := w) rfl (.tmp 19) (.tmp 20) rfl (.slice ba m bc) m f rfl HB.out w.heap.size 1 _ [2] rfl (by decide) rfl _ _ rfl rfl hb ?_
      intro g' c' F' w' x1 x2 x3
      have HC := Lib.hid x3
      have X1 := Lib.hid x1
      have X2 := Lib.hid x2
      clear x1 x2 x3
      (go_wp2_with fail
       go_ret
       exact ⟨g', c', F', rfl, X1.out, X2.out, HC.out⟩)
    · have e : ndPut (.mk 1 n s kids names) = [1] := by rw [ndPut, if_neg (by omega), if_pos rfl, if_neg h1]
      rw [e] at hb ⊢
      rw [decide_eq_false h1]
      clear e h1
      go_enter Try.func27, Try.ntmps27
      go_wp2_with (at_builtin; refine stop_list ?_)
      refine wpList_append_few (w0 := w0) (L := L) (w := w) rfl (.tmp 22) (.tmp 23) rfl (.slice ba m bc) m f rfl HB.out w.heap.size 1 _ [1] rfl (by decide) rfl _ _ rfl rfl hb ?_
      intro g' c' F' w' x1 x2 x3
      have HC := Lib.hid x3
      have X1 := Lib.hid x1
      have X2 := Lib.hid x2
      clear x1 x2 x3
      (go_wp2_with fail
       go_ret
       exact ⟨g', c', F', rfl, X1.out, X2.out, HC.out⟩)
  | num _ _ _ _ hn =>
    clear ih hs
    have e : ndPut (.mk 2 n s kids names) = [3] ++ beL 8 n := by rw [ndPut, if_neg (by omega), if_neg (by omega), if_pos rfl]; rfl
    rw [e] at hb ⊢
    rw [List.length_append, beL_len] at hb
    clear e
    go_enter Try.func27, Try.ntmps27
    go_wp2_with (at_builtin; refine stop_list ?_)
    refine wpList_append_few (w0 := w0) (L := L) (w := w) rfl (.tmp 28) (.tmp 29) rfl (.slice ba m bc) m f rfl HB.out w.heap.size 1 _ [3] rfl (by decide) rfl _ _ rfl rfl (by omega) ?_
    intro g' c' F' w' x1 x2 x3
    have HC := Lib.hid x3
    have X1 := Lib.hid x1
    have X2 := Lib.hid x2
    clear x1 x2 x3
    go_wp2_with fail
    refine (num_own g' (m + [(3 : UInt8)].length) c' 8 n F' (by omega) (by omega) X1.out (by simpa using hb) w0 _ L HC.out).mono ?_; rintro e w2 ⟨g2, c2, F2, rfl, y1, y2, y3⟩
    have HC := Lib.hid y3
    have Y1 := Lib.hid (show m + ([(3 : UInt8)] ++ beL 8 n).length ≤ c2 by rw [List.length_append, beL_len]; exact y1)
    have Y2 := Lib.hid (glue_then X2.out (G := beB n 8) (b := beL 8 n) (fun i hi => (beL_at 8 n i (by rw [beL_len] at hi; exact hi)).symm) (fun i hi => y2 i (by rw [beL_len] at hi; exact hi)))
    clear y1 y2 y3
    go_wp2_with fail
    go_ret
    exact ⟨g2, c2, F2, rfl, Y1.out, Y2.out, HC.out⟩
  | text =>
    have hs2 : s.size ≤ 65535 := by cases hs; omega
    have e : ndPut (.mk 3 n s kids names) = 4 :: rowL s := by rw [ndPut, if_neg (by omega), if_neg (by omega), if_neg (by omega), if_pos rfl]
    rw [e] at hb ⊢
    rw [List.length_cons] at hb
    clear e ih hs
    go_enter Try.func27, Try.ntmps27
    go_wp2_with (at_builtin; refine stop_list ?_)
    refine wpList_append_few (w0 := w0) (L := L) (w := w) rfl (.tmp 36) (.tmp 37) rfl (.slice ba m bc) m f rfl HB.out w.heap.size 1 _ [4] rfl (by decide) rfl _ _ rfl rfl (by simp only [List.length_cons, List.length_nil]; omega) ?_
    intro g' c' F' w' x1 x2 x3
    have HC := Lib.hid x3
    have X1 := Lib.hid x1
    have X2 := Lib.hid x2
    clear x1 x2 x3
    go_wp2_with fail
    refine (row10_own g' (m + [(4 : UInt8)].length) c' F' (glue m f (atL [4])) s hs2 X1.out X2.out (by simp only [List.length_cons, List.length_nil]; omega) w0 _ L HC.out).mono ?_; rintro e w2 ⟨g2, c2, F2, rfl, y1, y2, y3⟩
    have HC := Lib.hid y3
    obtain ⟨M, hM⟩ : ∃ M, m + [(4 : UInt8)].length + (rowL s).length = M := ⟨_, rfl⟩
    have HM := Lib.hid (show m + (4 :: rowL s).length = M by rw [← hM]; simp only [List.length_cons, List.length_nil]; omega)
    rw [hM] at y1 y2 ⊢
    have Y1 := Lib.hid y1
    have Y2 := Lib.hid (fun i (hi : i < M) => (y2 i hi).trans (glue_app m f [4] (rowL s) i))
    clear y1 y2 y3 hM
    go_wp2_with fail
    go_ret
    exact ⟨g2, c2, F2, (by rw [HM.out]; rfl), by rw [HM.out]; exact Y1.out, by rw [HM.out]; exact Y2.out, HC.out⟩
  | list _ _ _ _ a c vs h3 h4 =>
    have hkl : kids.length ≤ 70 := by cases hs; assumption
    have hs5 : ∀ x ∈ kids, Small x := by cases hs; assumption
    have e : ndPut (.mk 4 n s kids names) = preL 5 kids.length false names kids kids.length := by rw [ndPut, if_neg (by omega), if_neg (by omega), if_neg (by omega), if_neg (by omega), if_pos rfl]; unfold preL; rw [List.take_length]; rfl
    have hle : ∀ j, (preL 5 kids.length false names kids j).length ≤ (preL 5 kids.length false names kids kids.length).length := fun j => by
      unfold preL; rw [List.take_length]; simp only [List.length_cons]; have := putL_le false names kids j; omega
    have hnx : ∀ j (h : j < kids.length), preL 5 kids.length false names kids (j + 1) = preL 5 kids.length false names kids j ++ ndPut kids[j] := fun j h => by
      unfold preL; rw [putL_take false names kids j h]; rfl
    have h0 : preL 5 kids.length false names kids 0 = [UInt8.ofNat 5, UInt8.ofNat kids.length] := rfl
    rw [e] at hb ⊢
    clear e
    obtain ⟨P, hP⟩ : ∃ P : Nat → List UInt8, preL 5 kids.length false names kids = P := ⟨_, rfl⟩
    rw [hP] at hb hle hnx h0 ⊢
    have HPb := Lib.hid hb
    have HPl := Lib.hid hle
    have HPn := Lib.hid hnx
    have HP0 := Lib.hid h0
    obtain ⟨kl, hk⟩ : ∃ kl, kids.length = kl := ⟨_, rfl⟩
    have HK := Lib.hid hk
    rw [hk] at h3 hkl ⊢
    have H3 := Lib.hid h3
    have H4 := Lib.hid h4
    have HI := Lib.hid ih
    have HS := Lib.hid hs5
    have kl70 : (kl : Int) ≤ 70 := by omega
    clear hle hnx h0 hP hb h3 h4 ih hs5 hs hk
    go_enter Try.func27, Try.ntmps27
    go_wp2_with (at_builtin; refine stop_list ?_)
    refine wpList_append_few (w0 := w0) (L := L) (w := w) rfl (.tmp 44) (.tmp 48) rfl (.slice ba m bc) m f rfl HB.out w.heap.size 2 _ [UInt8.ofNat 5, UInt8.ofNat kl] (two_row 5 kl (by omega) (by omega)) (by simp) rfl _ _ rfl rfl (by have := HPb.out; have := HPl.out 0; rw [HP0.out] at this; simp only [List.length_cons, List.length_nil] at this ⊢; omega) ?_
    intro g' c' F' w' x1 x2 x3
    have HC := Lib.hid x3
    obtain ⟨M, hM⟩ : ∃ M, m + [UInt8.ofNat 5, UInt8.ofNat kl].length = M := ⟨_, rfl⟩
    have HM := Lib.hid (show M = m + (P 0).length by rw [HP0.out, ← hM]; rfl)
    rw [hM] at x1 x2 ⊢
    have X1 := Lib.hid x1
    have X2 := Lib.hid (show ∀ i, i < M → F' i = glue m f (atL (P 0)) i by rw [HP0.out, HK.out]; exact x2)
    clear x1 x2 x3 hM HB
    go_wp2_with fail
    go_loopw [0, 52] (fun b i wr => ∃ j : Nat, j ≤ kl ∧ i = .int .i64 (j : Int) ∧ ∃ (g c M : Nat) (F : Nat → UInt8), b = .slice (some ⟨g, 0, none⟩) M c ∧ Hid (M = m + (P j).length) ∧ Hid (M ≤ c) ∧ Hid (∀ i, i < M → F i = glue m f (atL (P j)) i) ∧ Hid (St w0 ((g, blk c F) :: L) wr)) (fun _ i _ => kl - (intOf i).toNat)
    case atStart => exact ⟨0, by omega, rfl, g', c', M, F', rfl, HM, X1, X2, HC⟩
    case round =>
      clear HC HM X1 X2
      obtain ⟨j, hj, rfl, g, c1, M, F, rfl, HM, X1, X2, HC⟩ := hrel
      by_cases hlt : j < kl
      · have d6 : (j : Int) < (kl : Int) := by omega
        have hjn : j < kids.length := by rw [HK.out]; exact hlt
        obtain ⟨ad, rfl⟩ := H3.out.some j hlt
        have hl := ((H3.out.call HC.out.below (Nat.le_refl _)).at j hlt)
        rw [Nat.mul_one] at hl
        have k1 := hl.2.1
        have k2 := hl.first (by omega)
        rw [show (#[vs j] : Array Value)[0]? = some (vs j) from rfl] at k2
        clear hl
        go_wp2_with fail
        clear k1 k2
        refine (HI.out kids[j] (List.getElem_mem hjn) (HS.out _ (List.getElem_mem hjn)) (vs j) _ M (glue m f (atL (P j))) w0 _ L (H4.out j hjn) (by have h1 := HPl.out (j + 1); rw [HPn.out j hjn, List.length_append] at h1; have := HPb.out; have := HM.out; have := HK.out; omega) (Byt.own HC.out X1.out X2.out)).mono ?_; rintro e w2 ⟨g2, c2, F2, rfl, y1, y2, y3⟩
        have HC := Lib.hid y3
        obtain ⟨M2, hM2⟩ : ∃ M2, M + (ndPut kids[j]).length = M2 := ⟨_, rfl⟩
        have HM2 := Lib.hid (show M2 = m + (P (j + 1)).length by rw [HPn.out j hjn, List.length_append, ← hM2, HM.out]; omega)
        rw [hM2] at y1 y2 ⊢
        have Y1 := Lib.hid y1
        have Y2 := Lib.hid (show ∀ i, i < M2 → F2 i = glue m f (atL (P (j + 1))) i from fun i hi => by rw [HPn.out j hjn, ← glue_app, ← HM.out]; exact y2 i hi)
        clear y1 y2 y3 hM2
        go_wp2_with fail
        go_roundw
        case rel => exact ⟨j + 1, by omega, by go_num, g2, c2, M2, F2, rfl, HM2, Y1, Y2, HC⟩
        case measure => simp [intOf]; omega
      · obtain rfl : j = kl := by omega
        go_wp2_with fail
        go_ret
        exact ⟨g, c1, F, (by rw [HM.out]; rfl), by rw [← HM.out]; exact X1.out, by rw [← HM.out]; exact X2.out, HC.out⟩
  | pairs _ _ _ _ a c vs h3 h4 =>
    have hkl : kids.length ≤ 70 := by cases hs; assumption
    have hs5 : ∀ x ∈ kids, Small x := by cases hs; assumption
    have hs4 : ∀ j, (nameOf names j).size ≤ 65535 := fun j => by
      cases hs with
      | mk _ _ _ _ _ s1 s2 s3 s4 s5 =>
        unfold nameOf
        rw [List.getD_eq_getElem?_getD]
        cases hg : names[j]? with
        | none => exact Nat.zero_le _
        | some t => have := s4 t (List.mem_of_getElem? hg); exact Nat.le_trans this (by decide)
    have e : ndPut (.mk 5 n s kids names) = preL 6 kids.length true names kids kids.length := by rw [ndPut, if_neg (by omega), if_neg (by omega), if_neg (by omega), if_neg (by omega), if_neg (by omega), if_pos rfl]; unfold preL; rw [List.take_length]; rfl
    have hle : ∀ j, (preL 6 kids.length true names kids j).length ≤ (preL 6 kids.length true names kids kids.length).length := fun j => by
      unfold preL; rw [List.take_length]; simp only [List.length_cons]; have := putL_le true names kids j; omega
    have hnx : ∀ j (h : j < kids.length), preL 6 kids.length true names kids (j + 1) = preL 6 kids.length true names kids j ++ (rowL (nameOf names j) ++ ndPut kids[j]) := fun j h => by
      unfold preL; rw [putL_take true names kids j h]; rfl
    have h0 : preL 6 kids.length true names kids 0 = [UInt8.ofNat 6, UInt8.ofNat kids.length] := rfl
    rw [e] at hb ⊢
    clear e
    obtain ⟨P, hP⟩ : ∃ P : Nat → List UInt8, preL 6 kids.length true names kids = P := ⟨_, rfl⟩
    rw [hP] at hb hle hnx h0 ⊢
    have HPb := Lib.hid hb
    have HPl := Lib.hid hle
    have HPn := Lib.hid hnx
    have HP0 := Lib.hid h0
    obtain ⟨kl, hk⟩ : ∃ kl, kids.length = kl := ⟨_, rfl⟩
    have HK := Lib.hid hk
    rw [hk] at h3 hkl ⊢
    have H3 := Lib.hid h3
    have H4 := Lib.hid h4
    have HI := Lib.hid ih
    have HS := Lib.hid hs5
    have HN4 := Lib.hid hs4
    have kl70 : (kl : Int) ≤ 70 := by omega
    clear hle hnx h0 hP hb h3 h4 ih hs5 hs4 hs hk
    have hpz := pairC_zero
    go_enter Try.func27, Try.ntmps27
    go_wp2_with (at_builtin; refine stop_list ?_)
    refine wpList_append_few (w0 := w0) (L := L) (w := w) rfl (.tmp 64) (.tmp 68) rfl (.slice ba m bc) m f rfl HB.out w.heap.size 2 _ [UInt8.ofNat 6, UInt8.ofNat kl] (two_row 6 kl (by omega) (by omega)) (by simp) rfl _ _ rfl rfl (by have := HPb.out; have := HPl.out 0; rw [HP0.out] at this; simp only [List.length_cons, List.length_nil] at this ⊢; omega) ?_
    intro g' c' F' w' x1 x2 x3
    have HC := Lib.hid x3
    obtain ⟨M, hM⟩ : ∃ M, m + [UInt8.ofNat 6, UInt8.ofNat kl].length = M := ⟨_, rfl⟩
    have HM := Lib.hid (show M = m + (P 0).length by rw [HP0.out, ← hM]; rfl)
    rw [hM] at x1 x2 ⊢
    have X1 := Lib.hid x1
    have X2 := Lib.hid (show ∀ i, i < M → F' i = glue m f (atL (P 0)) i by rw [HP0.out, HK.out]; exact x2)
    clear x1 x2 x3 hM HB
    go_wp2_with fail
    go_loopw [0, 72] (fun b i wr => ∃ j : Nat, j ≤ kl ∧ i = .int .i64 (j : Int) ∧ ∃ (g c M : Nat) (F : Nat → UInt8), b = .slice (some ⟨g, 0, none⟩) M c ∧ Hid (M = m + (P j).length) ∧ Hid (M ≤ c) ∧ Hid (∀ i, i < M → F i = glue m f (atL (P j)) i) ∧ Hid (St w0 ((g, blk c F) :: L) wr)) (fun _ i _ => kl - (intOf i).toNat)
    case atStart => exact ⟨0, by omega, rfl, g', c', M, F', rfl, HM, X1, X2, HC⟩
    case round =>
      clear HC HM X1 X2
      obtain ⟨j, hj, rfl, g, c1, M, F, rfl, HM, X1, X2, HC⟩ := hrel
      by_cases hlt : j < kl
      · have d6 : (j : Int) < (kl : Int) := by omega
        have hjn : j < kids.length := by rw [HK.out]; exact hlt
        obtain ⟨ad, rfl⟩ := H3.out.some j hlt
        have hld := ((H3.out.call HC.out.below (Nat.le_refl _)).at j hlt).pair
        have hvo := (H4.out j hjn).one
        have HV := Lib.hid (H4.out j hjn)
        have htn := HN4.out j
        obtain ⟨t, ht⟩ : ∃ t, nameOf names j = t := ⟨_, rfl⟩
        have hnx := HPn.out j hjn
        have hle := HPl.out (j + 1)
        rw [ht] at hld htn hnx
        generalize vs j = v at hld hvo HV
        go_upto_region 28 with fail
        clear hld
        have HC := Lib.hid ((HC.out.push (pairC t v) 60).swap)
        generalize wr.alloc (Obj.cells (pairC t v) 60) = w5 at HC ⊢
        generalize wr.heap.size = gp at HC ⊢
        rw [hnx, List.length_append, List.length_append] at hle
        have hMv := HM.out
        have hPb := HPb.out
        have K1 := Lib.hid (fun w' (h : St w0 ((g, blk c1 F) :: (gp, pairC t v) :: L) w') => row10_own g M c1 F (glue m f (atL (P j))) t htn X1.out X2.out (by omega) w0 w' _ h)
        have K2 := Lib.hid (fun w' g3 c3 F3 (h1 : M + (rowL t).length ≤ c3) (h2 : ∀ i, i < M + (rowL t).length → F3 i = glue M (glue m f (atL (P j))) (atL (rowL t)) i) (h : St w0 ((g3, blk c3 F3) :: (gp, pairC t v) :: L) w') => HI.out kids[j] (List.getElem_mem hjn) (HS.out _ (List.getElem_mem hjn)) v (.slice (some ⟨g3, 0, none⟩) (M + (rowL t).length) c3) (M + (rowL t).length) (glue M (glue m f (atL (P j))) (atL (rowL t))) w0 w' _ HV.out (by omega) (Byt.own h h1 h2))
        obtain ⟨M1, hM1⟩ : ∃ M1, M + (rowL t).length = M1 := ⟨_, rfl⟩
        obtain ⟨M2, hM2⟩ : ∃ M2, M1 + (ndPut kids[j]).length = M2 := ⟨_, rfl⟩
        have HM1 := Lib.hid hM1
        have HM2 := Lib.hid (show M2 = m + (P (j + 1)).length by rw [hnx, List.length_append, List.length_append, ← hM2, ← hM1, hMv]; omega)
        have HPx := Lib.hid hnx
        have HM0 := Lib.hid hMv
        have HM2b := Lib.hid hM2
        clear htn hnx hle hMv hPb hM1 hM2 ht
        obtain ⟨r1, f1, i1, b1, l1⟩ := St.facts1 (HC.out.pick [1] (by decide) rfl)
        go_region_with (first
          | (go_at_call 40; refine (K1.out _ (by repeat (first | exact HC.out | apply St.drew | apply St.drewN))).mono ?_; rintro e w6 ⟨g3, c3, F3, rfl, y1, y2, y3⟩; have Y1 := Lib.hid y1; have Y2 := Lib.hid y2; have HR := Lib.hid y3; clear y1 y2 y3 r1 f1 i1 b1 l1; obtain ⟨r1, f1, i1, b1, l1⟩ := St.facts1 (HR.out.pick [1] (by decide) rfl); rw [HM1.out])
          | (go_at_call 27; rw [← HM1.out]; refine (K2.out _ g3 c3 F3 Y1.out Y2.out (by repeat (first | exact HR.out | apply St.drew | apply St.drewN))).mono ?_; rintro e w7 ⟨g4, c4, F4, rfl, y1, y2, y3⟩; rw [HM1.out, HM2b.out] at y1 y2; have Z1 := Lib.hid y1; have Z2 := Lib.hid y2; have HS2 := Lib.hid y3; clear y1 y2 y3; rw [HM1.out, HM2b.out]))
        all_goals
          have Y3 := Lib.hid (show ∀ i, i < M2 → F4 i = glue m f (atL (P (j + 1))) i from fun i hi => by
            have h1 := Z2.out i hi
            rw [← HM1.out, glue_app, HM0.out, glue_app, ← HPx.out] at h1
            exact h1)
          clear r1 f1 i1 b1 l1
          go_wp2_with fail
          go_roundw
          case rel => exact ⟨j + 1, by omega, by go_num, g4, c4, M2, F4, rfl, HM2, Z1, Y3, Lib.hid (by repeat (first | exact HS2.out.over | apply St.drew | apply St.drewN))⟩
          case measure => simp [intOf]; omega
      · obtain rfl : j = kl := by omega
        go_wp2_with fail
        go_ret
        exact ⟨g, c1, F, (by rw [HM.out]; rfl), by rw [← HM.out]; exact X1.out, by rw [← HM.out]; exact X2.out, HC.out⟩
  | odd _ _ _ _ _ hk h2 =>
    have e : ndPut (.mk k n s kids names) = [0] := by rw [ndPut, if_neg (by omega), if_neg (by omega), if_neg (by omega), if_neg (by omega), if_neg (by omega), if_neg (by omega)]
    rw [e] at hb ⊢
    clear e ih hs hk
    go_enter Try.func27, Try.ntmps27
    go_wp2_with (at_builtin; refine stop_list ?_)
    refine wpList_append_few (w0 := w0) (L := L) (w := w) rfl (.tmp 85) (.tmp 86) rfl (.slice ba m bc) m f rfl HB.out w.heap.size 1 _ [0] rfl (by decide) rfl _ _ rfl rfl hb ?_
    intro g' c' F' w' x1 x2 x3
    have HC := Lib.hid x3
    have X1 := Lib.hid x1
    have X2 := Lib.hid x2
    clear x1 x2 x3
    (go_wp2_with fail
     go_ret
     exact ⟨g', c', F', rfl, X1.out, X2.out, HC.out⟩)
end Go.Proofs.Ytinlcpenllfcpaa
