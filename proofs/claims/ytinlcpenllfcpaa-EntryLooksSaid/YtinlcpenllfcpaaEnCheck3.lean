/- The program's check and Check of any value; Text, Num, MustText, MustNum. -/
import Derived.Test.YtinlcpenllfcpaaEnAs
namespace Go.Proofs.Ytinlcpenllfcpaa
open Go.RowKit
attribute [local go_sem] B_xor B_or B_and
attribute [local go_sem] blk_set blk_size blk_get blk_getE upd_same oneCells_blk paste_blk cut_blk szOf
attribute [local go_sem high] paste_all cut_head
attribute [local go_sem] rowAt_alloc rowAt_drew rowAt_drewN isRow_alloc isRow_drew isRow_drewN freeRow_alloc freeRow_end freeRow_drew freeRow_drewN
attribute [local go_sem] setRow_alloc setRow_drew setRow_drewN setCell_drewN alloc_drewN rowAt_put isRow_setRow freeRow_put
attribute [local go_sem ↓] loadS_in storeS_in indexS_in copyS_in
attribute [local go_sem] loadS_row loadS_one storeS_row storeS_one indexS_blk copyS_rows run_equalIn_blk same_refl arrayAt_row
attribute [local go_sem] cell_row frozen_row st_setCell st_blk_ne stepAt stepUpon
attribute [local go_sem high] run_eql_blk run_neq_blk
attribute [local go_sem ↓] convBS_in
attribute [local go_sem] convBS_row convBS_nil allBytes_blk bytesOf_blk
attribute [local go_sem] as_bool_yes as_u64_yes as_text_yes as_list_yes as_pairs_yes as_text_must as_u64_must as_bool_no as_u64_no as_text_no as_list_no as_pairs_no as_bool_nil as_u64_nil as_text_nil as_list_nil as_pairs_nil

theorem ndChk_low (k n : Nat) (s : ByteArray) (kids : List Nd) (names : List ByteArray) (d : Nat) (h : k < 3) : ndChk (.mk k n s kids names) d = 0 := by
  rw [ndChk, if_neg (by omega), if_neg (fun h => by omega), if_pos (by omega)]
theorem ndChk_list (k n : Nat) (s : ByteArray) (kids : List Nd) (names : List ByteArray) (d : Nat) (h : k = 4 ∨ k = 5) : ndChk (.mk k n s kids names) d = if withinE d kids.length ≠ 0 then withinE d kids.length else chkL (decide (k = 5)) names 0 kids (d + 1) := by
  rw [ndChk, if_neg (by omega), if_neg (fun h => by omega), if_neg (by omega)]
  unfold withinE
  by_cases h1 : 4 ≤ d
  · rw [if_pos h1, if_pos h1, if_pos (by decide)]
  · rw [if_neg h1, if_neg h1]
    by_cases h2 : 64 < kids.length
    · rw [if_pos h2, if_pos h2, if_pos (by decide)]
    · rw [if_neg h2, if_neg h2, if_neg (by decide)]
set_option maxRecDepth 100000 in
set_option maxHeartbeats 2000000 in
theorem check_any : ∀ (x : Nd) (v : Value) (d : Nat), d ≤ 10 → ∀ w, AnyAt w v x → Calls Try.prog 29 #[v, .int .i64 (d : Int)] w fun e w' => e = .returned (.int .i64 ((ndChk x d : Nat) : Int)) ∧ Below w.heap.size w w' := by
  refine Nd.ind fun k n s kids names ih => ?_
  intro v d hd w h
  cases h with
  | nil =>
    rw [ndChk_low _ _ _ _ _ _ (by omega)]
    clear ih
    (go_enter Try.func29, Try.ntmps29
     go_wp2_with fail
     go_ret
     exact ⟨rfl, Below.refl _ _⟩)
  | bool =>
    rw [ndChk_low _ _ _ _ _ _ (by omega)]
    generalize decide (n = 1) = b
    clear ih
    (go_enter Try.func29, Try.ntmps29
     go_wp2_with fail
     go_ret
     exact ⟨rfl, Below.refl _ _⟩)
  | num _ _ _ _ hn =>
    rw [ndChk_low _ _ _ _ _ _ (by omega)]
    clear ih
    (go_enter Try.func29, Try.ntmps29
     go_wp2_with fail
     go_ret
     exact ⟨rfl, Below.refl _ _⟩)
  | text =>
    clear ih
    by_cases hs : 65535 < s.size
    · have e : ndChk (.mk 3 n s kids names) d = 5 := by rw [ndChk, if_neg (by omega), if_pos ⟨rfl, hs⟩]
      have d7 : decide (65535 < (s.size : Int)) = true := decide_eq_true (by omega)
      rw [e]
      clear e hs
      (go_enter Try.func29, Try.ntmps29
       go_wp2_with fail
       go_ret
       exact ⟨rfl, Below.refl _ _⟩)
    · have e : ndChk (.mk 3 n s kids names) d = 0 := by rw [ndChk, if_neg (by omega), if_neg (fun h => hs h.2), if_pos (by omega)]
      have d7 : decide (65535 < (s.size : Int)) = false := decide_eq_false (by omega)
      rw [e]
      clear e hs
      (go_enter Try.func29, Try.ntmps29
       go_wp2_with fail
       go_ret
       exact ⟨rfl, Below.refl _ _⟩)
  | list _ _ _ _ a c vs h3 h4 =>
    rw [ndChk_list _ _ _ _ _ _ (.inl rfl)]
    have K := Lib.hid (fun w' (hb : Below w.heap.size w w') => checkAny_any kids names a c vs d hd w' (h3.call hb (Nat.le_refl _)) fun i hi w'' hb' hd' => ih kids[i] (List.getElem_mem hi) (vs i) (d + 1) hd' w'' ((h4 i hi).call (hb.trans (hb'.mono hb.size)) (Nat.le_refl _)))
    rw [show decide (4 = 5) = false from rfl]
    generalize (if withinE d kids.length ≠ 0 then withinE d kids.length else chkL false names 0 kids (d + 1)) = E at K ⊢
    clear ih h3 h4
    go_enter Try.func29, Try.ntmps29
    go_wp2_with fail
    refine (K.out _ (Below.refl _ _)).mono ?_; rintro e w2 ⟨rfl, hw⟩
    go_wp2_with fail
    go_ret
    exact ⟨rfl, hw⟩
  | pairs _ _ _ _ a c vs h3 h4 =>
    rw [ndChk_list _ _ _ _ _ _ (.inr rfl)]
    have K := Lib.hid (fun w' (hb : Below w.heap.size w w') => checkPairs_any kids names a c vs d hd w' (h3.call hb (Nat.le_refl _)) (fun i hi => (h4 i hi).one) fun i hi w'' hb' hd' => ih kids[i] (List.getElem_mem hi) (vs i) (d + 1) hd' w'' ((h4 i hi).call (hb.trans (hb'.mono hb.size)) (Nat.le_refl _)))
    rw [show decide (5 = 5) = true from rfl]
    generalize (if withinE d kids.length ≠ 0 then withinE d kids.length else chkL true names 0 kids (d + 1)) = E at K ⊢
    clear ih h3 h4
    go_enter Try.func29, Try.ntmps29
    go_wp2_with fail
    refine (K.out _ (Below.refl _ _)).mono ?_; rintro e w2 ⟨rfl, hw⟩
    go_wp2_with fail
    go_ret
    exact ⟨rfl, hw⟩
  | odd _ _ _ _ _ hk h2 =>
    have e : ndChk (.mk k n s kids names) d = 22 := by rw [ndChk, if_pos hk]
    rw [e]
    clear e ih hk
    (go_enter Try.func29, Try.ntmps29
     go_wp2_with fail
     go_ret
     exact ⟨rfl, Below.refl _ _⟩)
theorem checkTop_any (x : Nd) (v : Value) (w : World) (h : AnyAt w v x) : Calls Try.prog 13 #[v] w fun e w' => e = .returned (.int .i64 ((ndChk x 0 : Nat) : Int)) ∧ Below w.heap.size w w' := by
  have K := Lib.hid (check_any x v 0 (by omega) w h)
  generalize ndChk x 0 = E at K
  clear h
  go_enter Try.func13, Try.ntmps13
  go_wp2_with fail
  refine K.out.mono ?_; rintro e w2 ⟨rfl, hw⟩
  go_wp2_with fail
  go_ret
  exact ⟨rfl, hw⟩
/-- what a value is as a text, as a number -/
def ndText (x : Nd) : ByteArray := if x.kind = 3 then x.txt else ⟨#[]⟩
def ndNum (x : Nd) : Nat := if x.kind = 2 then x.num else 0
theorem text10_any (x : Nd) (v : Value) (w : World) (h : AnyAt w v x) : Calls Try.prog 19 #[v] w fun e w' => e = .returned (.tuple #[.string (ndText x), .bool (decide (x.kind = 3))]) ∧ Below w.heap.size w w' := by
  cases h with
  | nil =>
    rw [show ndText (.mk 0 _ _ _ _) = ⟨#[]⟩ from rfl, show decide (Nd.kind (.mk 0 _ _ _ _) = 3) = false from rfl]
    go_enter Try.func19, Try.ntmps19
    (go_wp2_with fail
     go_ret2
     exact ⟨rfl, Below.refl _ _⟩)
  | bool n =>
    rw [show ndText (.mk 1 _ _ _ _) = ⟨#[]⟩ from rfl, show decide (Nd.kind (.mk 1 _ _ _ _) = 3) = false from rfl]
    generalize decide (n = 1) = b
    go_enter Try.func19, Try.ntmps19
    (go_wp2_with fail
     go_ret2
     exact ⟨rfl, Below.refl _ _⟩)
  | num _ _ _ _ hn =>
    rw [show ndText (.mk 2 _ _ _ _) = ⟨#[]⟩ from rfl, show decide (Nd.kind (.mk 2 _ _ _ _) = 3) = false from rfl]
    go_enter Try.func19, Try.ntmps19
    (go_wp2_with fail
     go_ret2
     exact ⟨rfl, Below.refl _ _⟩)
  | text n s =>
    rw [show ndText (.mk 3 _ s _ _) = s from rfl, show decide (Nd.kind (.mk 3 _ _ _ _) = 3) = true from rfl]
    go_enter Try.func19, Try.ntmps19
    (go_wp2_with fail
     go_ret2
     exact ⟨rfl, Below.refl _ _⟩)
  | list =>
    rw [show ndText (.mk 4 _ _ _ _) = ⟨#[]⟩ from rfl, show decide (Nd.kind (.mk 4 _ _ _ _) = 3) = false from rfl]
    rename_i h3 h4
    clear h3 h4
    go_enter Try.func19, Try.ntmps19
    (go_wp2_with fail
     go_ret2
     exact ⟨rfl, Below.refl _ _⟩)
  | pairs =>
    rw [show ndText (.mk 5 _ _ _ _) = ⟨#[]⟩ from rfl, show decide (Nd.kind (.mk 5 _ _ _ _) = 3) = false from rfl]
    rename_i h3 h4
    clear h3 h4
    go_enter Try.func19, Try.ntmps19
    (go_wp2_with fail
     go_ret2
     exact ⟨rfl, Below.refl _ _⟩)
  | odd k n s kids names hk =>
    rw [show ndText (.mk k n s kids names) = ⟨#[]⟩ from if_neg (by show ¬ k = 3; omega), show decide (Nd.kind (.mk k n s kids names) = 3) = false from decide_eq_false (by show ¬ k = 3; omega)]
    clear hk
    go_enter Try.func19, Try.ntmps19
    (go_wp2_with fail
     go_ret2
     exact ⟨rfl, Below.refl _ _⟩)
theorem num10_any (x : Nd) (v : Value) (w : World) (h : AnyAt w v x) : Calls Try.prog 20 #[v] w fun e w' => e = .returned (.tuple #[.int .u64 ((ndNum x : Nat) : Int), .bool (decide (x.kind = 2))]) ∧ Below w.heap.size w w' := by
  cases h with
  | nil =>
    rw [show ndNum (.mk 0 _ _ _ _) = 0 from rfl, show decide (Nd.kind (.mk 0 _ _ _ _) = 2) = false from rfl]
    go_enter Try.func20, Try.ntmps20
    (go_wp2_with fail
     go_ret2
     exact ⟨rfl, Below.refl _ _⟩)
  | bool n =>
    rw [show ndNum (.mk 1 _ _ _ _) = 0 from rfl, show decide (Nd.kind (.mk 1 _ _ _ _) = 2) = false from rfl]
    generalize decide (n = 1) = b
    go_enter Try.func20, Try.ntmps20
    (go_wp2_with fail
     go_ret2
     exact ⟨rfl, Below.refl _ _⟩)
  | num n _ _ _ hn =>
    rw [show ndNum (.mk 2 n _ _ _) = n from rfl, show decide (Nd.kind (.mk 2 _ _ _ _) = 2) = true from rfl]
    go_enter Try.func20, Try.ntmps20
    (go_wp2_with fail
     go_ret2
     exact ⟨rfl, Below.refl _ _⟩)
  | text n s =>
    rw [show ndNum (.mk 3 _ s _ _) = 0 from rfl, show decide (Nd.kind (.mk 3 _ _ _ _) = 2) = false from rfl]
    go_enter Try.func20, Try.ntmps20
    (go_wp2_with fail
     go_ret2
     exact ⟨rfl, Below.refl _ _⟩)
  | list =>
    rw [show ndNum (.mk 4 _ _ _ _) = 0 from rfl, show decide (Nd.kind (.mk 4 _ _ _ _) = 2) = false from rfl]
    rename_i h3 h4
    clear h3 h4
    go_enter Try.func20, Try.ntmps20
    (go_wp2_with fail
     go_ret2
     exact ⟨rfl, Below.refl _ _⟩)
  | pairs =>
    rw [show ndNum (.mk 5 _ _ _ _) = 0 from rfl, show decide (Nd.kind (.mk 5 _ _ _ _) = 2) = false from rfl]
    rename_i h3 h4
    clear h3 h4
    go_enter Try.func20, Try.ntmps20
    (go_wp2_with fail
     go_ret2
     exact ⟨rfl, Below.refl _ _⟩)
  | odd k n s kids names hk =>
    rw [show ndNum (.mk k n s kids names) = 0 from if_neg (by show ¬ k = 2; omega), show decide (Nd.kind (.mk k n s kids names) = 2) = false from decide_eq_false (by show ¬ k = 2; omega)]
    clear hk
    go_enter Try.func20, Try.ntmps20
    (go_wp2_with fail
     go_ret2
     exact ⟨rfl, Below.refl _ _⟩)
theorem mustText_any (s : ByteArray) (w : World) : Calls Try.prog 24 #[.iface 9 (.string s)] w fun e w' => e = .returned (.string s) ∧ Below w.heap.size w w' := by
  go_enter Try.func24, Try.ntmps24
  go_wp2_with fail
  go_ret
  exact ⟨rfl, Below.refl _ _⟩
theorem mustNum_any (n : Nat) (w : World) : Calls Try.prog 25 #[.iface 22 (.int .u64 (n : Int))] w fun e w' => e = .returned (.int .u64 (n : Int)) ∧ Below w.heap.size w w' := by
  go_enter Try.func25, Try.ntmps25
  go_wp2_with fail
  go_ret
  exact ⟨rfl, Below.refl _ _⟩
end Go.Proofs.Ytinlcpenllfcpaa
