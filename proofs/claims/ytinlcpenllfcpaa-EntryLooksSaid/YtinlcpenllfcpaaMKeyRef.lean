/- The reference's keys: Derive, Rotate, Text. Lists of no more than six keys. * The reference's Text of a list of keys. Lists of no more than six keys. * The reference's Parse of a ring's text. Texts no longer than 2 to 40. * A ring held against the reference's list of keys (Like). Rings of no more than six keys. -/
import Derived.Test.YtinlcpenllfcpaaMKeys
import Derived.Deep.RegionLaw
section
namespace Go.Proofs.Ytinlcpenllfcpaa
open Go.RowKit
attribute [local go_sem] B_xor B_or B_and
attribute [local go_sem] blk_set blk_size blk_get blk_getE upd_same oneCells_blk paste_blk cut_blk szOf
attribute [local go_sem high] paste_all cut_head
attribute [local go_sem] rowAt_alloc rowAt_drew rowAt_drewN isRow_alloc isRow_drew isRow_drewN freeRow_alloc freeRow_end freeRow_drew freeRow_drewN
attribute [local go_sem] setRow_alloc setRow_drew setRow_drewN setCell_drewN alloc_drewN rowAt_put isRow_setRow freeRow_put
attribute [local go_sem ↓] loadS_in storeS_in indexS_in copyS_in
attribute [local go_sem] loadS_row loadS_one storeS_row storeS_one indexS_blk copyS_rows run_equalIn_blk same_refl arrayAt_row
attribute [local go_sem] cell_row frozen_row st_setCell st_blk_ne stepAt stepUpon
attribute [local go_sem high] run_eql_blk run_neq_blk
attribute [local go_sem ↓] convBS_in
attribute [local go_sem] convBS_row convBS_nil allBytes_blk bytesOf_blk

/-- a list of keys: how many, and their bytes, as it reads in a world -/
def Keys16 (w : World) (v : Value) (n : Nat) (f : Nat → UInt8) : Prop := (v = .slice none 0 0 ∧ n = 0) ∨ ∃ g c F, v = .slice (some ⟨g, 0, none⟩) n c ∧ n ≤ c ∧ g < w.heap.size ∧ rowAt w g = blk (c * 16) F ∧ isRow w g = true ∧ ∀ i, i < n * 16 → F i = f i
theorem Keys16.call {w w' : World} {v : Value} {n : Nat} {f : Nat → UInt8} (h : Keys16 w v n f) (hb : Below w.heap.size w w') : Keys16 w' v n f := by
  rcases h with h | ⟨g, c, F, h1, h2, h3, h4, h5, h6⟩
  · exact .inl h
  · exact .inr ⟨g, c, F, h1, h2, Nat.lt_of_lt_of_le h3 hb.size, (below_rowAt hb h3).trans h4, (below_isRow hb h3).trans h5, h6⟩
theorem Keys16.of {w0 w : World} {L : List (Nat × Array Value)} {g n c : Nat} {F f : Nat → UInt8} (hC : St w0 L w) (hm : (g, blk (c * 16) F) ∈ L) (hn : n ≤ c) (hF : ∀ i, i < n * 16 → F i = f i) : Keys16 w (.slice (some ⟨g, 0, none⟩) n c) n f := by
  obtain ⟨⟨h1, h2⟩, h3, h4, h5⟩ := hC.get hm
  exact .inr ⟨g, c, F, rfl, hn, h2, h3, h5, hF⟩
theorem build_key (g : Nat → UInt8) : Array.foldl (fun (cs : Array Value) (x : Value × Nat) => cs.setIfInBounds x.snd x.fst) #[.int .u8 (B 0), .int .u8 (B 0), .int .u8 (B 0), .int .u8 (B 0), .int .u8 (B 0), .int .u8 (B 0), .int .u8 (B 0), .int .u8 (B 0), .int .u8 (B 0), .int .u8 (B 0), .int .u8 (B 0), .int .u8 (B 0), .int .u8 (B 0), .int .u8 (B 0), .int .u8 (B 0), .int .u8 (B 0)] (blk 16 g).zipIdx 0 16 = blk 16 g := by
  have e : #[.int .u8 (B 0), .int .u8 (B 0), .int .u8 (B 0), .int .u8 (B 0), .int .u8 (B 0), .int .u8 (B 0), .int .u8 (B 0), .int .u8 (B 0), .int .u8 (B 0), .int .u8 (B 0), .int .u8 (B 0), .int .u8 (B 0), .int .u8 (B 0), .int .u8 (B 0), .int .u8 (B 0), .int .u8 (B 0)] = blk 16 (fun _ => 0) := by kernel_rfl
  rw [e, build_blk0 16 16 (fun _ => 0) g (Nat.le_refl _)]
  refine blk_congr fun i hi => ?_
  unfold cpy
  rw [if_pos (by omega)]
  congr 1; omega
attribute [local go_sem] build_key
/-- a list of n keys, in a block of the call's own, and that there is no error -/
def Keyed (w0 : World) (L : List (Nat × Array Value)) (n : Nat) (f : Nat → UInt8) (e : Ending) (w : World) : Prop := ∃ g c F, e = .returned (.tuple #[.slice (some ⟨g, 0, none⟩) n c, .int .i64 0]) ∧ n ≤ c ∧ (∀ i, i < n * 16 → F i = f i) ∧ St w0 ((g, blk (c * 16) F) :: L) w
theorem Keyed.mk {w0 w : World} {L : List (Nat × Array Value)} {n : Nat} {f : Nat → UInt8} {e : Ending} (g c : Nat) (F : Nat → UInt8) (he : e = .returned (.tuple #[.slice (some ⟨g, 0, none⟩) n c, .int .i64 0])) (hn : n ≤ c) (hF : ∀ i, i < n * 16 → F i = f i) (hC : St w0 ((g, blk (c * 16) F) :: L) w) : Keyed w0 L n f e w := ⟨g, c, F, he, hn, hF, hC⟩
theorem addB_glue {n : Nat} {f k F F2 : Nat → UInt8} {Z : Nat → UInt8} (h1 : ∀ i, i < (0 + n) * 16 → F i = glue (0 * 16) Z f i) (h2 : ∀ i, i < (n + 1) * 16 → F2 i = glue (n * 16) F k i) : ∀ i, i < (n + 1) * 16 → F2 i = addB f n k i := by
  intro i hi
  rw [h2 i hi]
  unfold glue addB cpy
  by_cases h : i < n * 16
  · rw [if_pos h, if_neg (by omega), h1 i (by omega)]
    unfold glue; rw [if_neg (by omega)]
    rfl
  · rw [if_neg h, if_pos (by omega), Nat.zero_add]
end Go.Proofs.Ytinlcpenllfcpaa
end

section
namespace Go.Proofs.Ytinlcpenllfcpaa
open Go.RowKit
attribute [local go_sem] B_xor B_or B_and
attribute [local go_sem] blk_set blk_size blk_get blk_getE upd_same oneCells_blk paste_blk cut_blk szOf
attribute [local go_sem high] paste_all cut_head
attribute [local go_sem] rowAt_alloc rowAt_drew rowAt_drewN isRow_alloc isRow_drew isRow_drewN freeRow_alloc freeRow_end freeRow_drew freeRow_drewN
attribute [local go_sem] setRow_alloc setRow_drew setRow_drewN setCell_drewN alloc_drewN rowAt_put isRow_setRow freeRow_put
attribute [local go_sem ↓] loadS_in storeS_in indexS_in copyS_in
attribute [local go_sem] loadS_row loadS_one storeS_row storeS_one indexS_blk copyS_rows run_equalIn_blk same_refl arrayAt_row
attribute [local go_sem] cell_row frozen_row st_setCell st_blk_ne stepAt stepUpon
attribute [local go_sem high] run_eql_blk run_neq_blk
attribute [local go_sem ↓] convBS_in
attribute [local go_sem] convBS_row convBS_nil allBytes_blk bytesOf_blk

theorem Keys16.form {w : World} {v : Value} {n : Nat} {f : Nat → UInt8} (h : Keys16 w v n f) : ∃ a c, v = .slice a n c := by
  rcases h with ⟨rfl, rfl⟩ | ⟨g, c, F, rfl, _⟩
  · exact ⟨_, _, rfl⟩
  · exact ⟨_, _, rfl⟩
theorem Keys16.open {w : World} {a : Option Addr} {n c : Nat} {f : Nat → UInt8} (h : Keys16 w (.slice a n c) n f) (hn : 0 < n) : ∃ g F, a = some ⟨g, 0, none⟩ ∧ n ≤ c ∧ g < w.heap.size ∧ rowAt w g = blk (c * 16) F ∧ isRow w g = true ∧ ∀ i, i < n * 16 → F i = f i := by
  rcases h with ⟨_, h⟩ | ⟨g, c', F, h, h1, h2, h3, h4, h5⟩
  · omega
  · injection h with h6 _ h7
    subst h7
    exact ⟨g, F, h6, h1, h2, h3, h4, h5⟩
theorem blk_one (x : UInt8) : #[Value.int .u8 (B x)] = blk 1 fun _ => x := rfl
theorem ringB_snoc {m : Nat} {f F F2 : Nat → UInt8} {n : Nat} {x : UInt8} (h : ∀ i, i < 1 + m → F i = ringB n f i) (h2 : ∀ i, i < 1 + m + 1 → F2 i = glue (1 + m) F (fun _ => x) i) (hx : x = f m) : ∀ i, i < 1 + (m + 1) → F2 i = ringB n f i := by
  intro i hi
  rw [h2 i (by omega)]
  unfold glue
  split
  · rename_i h3; exact h i h3
  · rename_i h3
    rw [hx]
    unfold ringB glue
    rw [if_neg (by omega)]
    rw [show i - 1 = m by omega]
end Go.Proofs.Ytinlcpenllfcpaa
end

section
namespace Go.Proofs.Ytinlcpenllfcpaa
open Go.RowKit
attribute [local go_sem] B_xor B_or B_and
attribute [local go_sem] blk_set blk_size blk_get blk_getE upd_same oneCells_blk paste_blk cut_blk szOf
attribute [local go_sem high] paste_all cut_head
attribute [local go_sem] rowAt_alloc rowAt_drew rowAt_drewN isRow_alloc isRow_drew isRow_drewN freeRow_alloc freeRow_end freeRow_drew freeRow_drewN
attribute [local go_sem] setRow_alloc setRow_drew setRow_drewN setCell_drewN alloc_drewN rowAt_put isRow_setRow freeRow_put
attribute [local go_sem ↓] loadS_in storeS_in indexS_in copyS_in
attribute [local go_sem] loadS_row loadS_one storeS_row storeS_one indexS_blk copyS_rows run_equalIn_blk same_refl arrayAt_row
attribute [local go_sem] cell_row frozen_row st_setCell st_blk_ne stepAt stepUpon
attribute [local go_sem high] run_eql_blk run_neq_blk
attribute [local go_sem ↓] convBS_in
attribute [local go_sem] convBS_row convBS_nil allBytes_blk bytesOf_blk
attribute [local go_sem] indexS_text indexS_text0 build_key

theorem text_full (s : ByteArray) (h : 0 < s.size) : s.toList.isEmpty = false := by
  cases hs : s.toList with
  | nil =>
    have e := (text_eq s ⟨#[]⟩).1 (by rw [hs]; simp [ByteArray.toList, ByteArray.toList.loop, ByteArray.size])
    subst e
    cases h
  | cons => rfl
/-- a list of keys that is laid, nil at first -/
def Out16 (w0 : World) (L : List (Nat × Array Value)) (b : Value) (n : Nat) (f : Nat → UInt8) (w : World) : Prop := (b = .slice none 0 0 ∧ n = 0 ∧ St w0 L w) ∨ ∃ g c F, b = .slice (some ⟨g, 0, none⟩) n c ∧ n ≤ c ∧ (∀ i, i < n * 16 → F i = f i) ∧ St w0 ((g, blk (c * 16) F) :: L) w
section
variable {w0 w w' : World} {L : List (Nat × Array Value)} {b : Value} {n : Nat} {f : Nat → UInt8}
theorem Out16.inner (h : Out16 w0 L b n f w) : St w0 L w := by
  rcases h with ⟨_, _, h⟩ | ⟨_, _, _, _, _, _, h⟩
  · exact h
  · exact h.tail
theorem Out16.call (h : Out16 w0 L b n f w) (hb : Below w.heap.size w w') : Out16 w0 L b n f w' := by
  rcases h with ⟨h1, h2, h⟩ | ⟨g, c, F, h1, h2, h3, h⟩
  · exact .inl ⟨h1, h2, h.call hb⟩
  · exact .inr ⟨g, c, F, h1, h2, h3, h.call hb⟩
theorem Out16.push (h : Out16 w0 L b n f w) (cs : Array Value) (t : TypeId) : Out16 w0 ((w.heap.size, cs) :: L) b n f (w.alloc (.cells cs t)) := by
  rcases h with ⟨h1, h2, h⟩ | ⟨g, c, F, h1, h2, h3, h⟩
  · exact .inl ⟨h1, h2, h.push cs t⟩
  · exact .inr ⟨g, c, F, h1, h2, h3, (h.push cs t).swap⟩
theorem Out16.drop {x : Nat × Array Value} (h : Out16 w0 (x :: L) b n f w) : Out16 w0 L b n f w := by
  rcases h with ⟨h1, h2, h⟩ | ⟨g, c, F, h1, h2, h3, h⟩
  · exact .inl ⟨h1, h2, h.tail⟩
  · exact .inr ⟨g, c, F, h1, h2, h3, h.over⟩
theorem Out16.set {q : Nat} {cs : Array Value} (h : Out16 w0 ((q, cs) :: L) b n f w) (cs' : Array Value) (hs : cs'.size = cs.size) : Out16 w0 ((q, cs') :: L) b n f (w.setRow q cs') := by
  rcases h with ⟨h1, h2, h⟩ | ⟨g, c, F, h1, h2, h3, h⟩
  · exact .inl ⟨h1, h2, h.set_head cs' hs⟩
  · exact .inr ⟨g, c, F, h1, h2, h3, (h.swap.set_head cs' hs).swap⟩
theorem Out16.congr {g : Nat → UInt8} (h : Out16 w0 L b n f w) (hg : ∀ i, i < n * 16 → f i = g i) : Out16 w0 L b n g w := by
  rcases h with h | ⟨g', c, F, h1, h2, h3, h⟩
  · exact .inl h
  · exact .inr ⟨g', c, F, h1, h2, fun i hi => (h3 i hi).trans (hg i hi), h⟩
end
theorem key_of_text (s R : ByteArray) (N j k : Nat) (hd : s.size = 1 + N * 16) (hR : s.extract 1 s.size = R) (hj : j < N) (hk : k < 16) : ofText s (1 + 16 * j + k) = ofText R (j * 16 + k) := by
  have hsz : s.data.size = s.size := rfl
  subst hR
  unfold ofText
  rw [ByteArray.data_extract, Array.getD_eq_getD_getElem?, Array.getD_eq_getD_getElem?, Array.getElem?_extract, if_pos (by omega)]
  congr 2; omega
end Go.Proofs.Ytinlcpenllfcpaa
end

section
namespace Go.Proofs.Ytinlcpenllfcpaa
open Go.RowKit
attribute [local go_sem] B_xor B_or B_and
attribute [local go_sem] blk_set blk_size blk_get blk_getE upd_same oneCells_blk paste_blk cut_blk szOf
attribute [local go_sem high] paste_all cut_head
attribute [local go_sem] rowAt_alloc rowAt_drew rowAt_drewN isRow_alloc isRow_drew isRow_drewN freeRow_alloc freeRow_end freeRow_drew freeRow_drewN
attribute [local go_sem] setRow_alloc setRow_drew setRow_drewN setCell_drewN alloc_drewN rowAt_put isRow_setRow freeRow_put
attribute [local go_sem ↓] loadS_in storeS_in indexS_in copyS_in
attribute [local go_sem] loadS_row loadS_one storeS_row storeS_one indexS_blk copyS_rows run_equalIn_blk same_refl arrayAt_row
attribute [local go_sem] cell_row frozen_row st_setCell st_blk_ne stepAt stepUpon
attribute [local go_sem high] run_eql_blk run_neq_blk
attribute [local go_sem ↓] convBS_in
attribute [local go_sem] convBS_row convBS_nil allBytes_blk bytesOf_blk
attribute [local go_sem] rg_size rg_get0 rg_getE0 rg_ne rg_set0 rg_one rg_cut rg_key rg_put rg_paste part_rg0 part_rg1

theorem cut_at16 (c u : Nat) (F : Nat → UInt8) (h : u * 16 + 16 ≤ c * 16) : cut (blk (c * 16) F) (u * 16) (u * 16 + 16) = blk 16 fun j => F (u * 16 + j) := by
  rw [cut_blk _ _ _ _ h, Nat.add_sub_cancel_left]
end Go.Proofs.Ytinlcpenllfcpaa
end
