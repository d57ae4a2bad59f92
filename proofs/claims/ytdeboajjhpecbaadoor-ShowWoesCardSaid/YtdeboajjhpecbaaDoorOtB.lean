/- Tables in memory; contract of find. -/
import Derived.Test.YtdeboajjhpecbaaDoorOtP
import Derived.Deep.DeepCutAuto
set_option linter.unusedVariables false
set_option linter.unusedSimpArgs false
namespace Go.Proofs.YtdeboajjhpecbaaDoor
open Go.RowKit Go.Sort

def k3C (v : K3) : List Value := [.int .i64 v.1, .int .i64 v.2.1, .string v.2.2]
abbrev VK (v : K3) : Value := VS v.1 v.2.1 v.2.2
def entC (e : Ent) : List Value := k3C e.key ++ k3C e.val ++ [.int .i64 e.flags, .bool e.grave]
def entsC (l : List Ent) : List Value := l.flatMap entC
theorem entC_length (e : Ent) : (entC e).length = 8 := rfl
theorem entsC_length (l : List Ent) : (entsC l).length = l.length * 8 := by
  induction l with
  | nil => rfl
  | cons e l ih => rw [entsC, List.flatMap_cons, List.length_append, entC_length, List.length_cons, show (l.flatMap entC).length = l.length * 8 from ih]; omega
theorem entsC_get (l : List Ent) (i j : Nat) (e : Ent) (he : l[i]? = some e) (hj : j < 8) : (entsC l)[i * 8 + j]? = (entC e)[j]? := by
  induction l generalizing i with
  | nil => simp at he
  | cons x l ih =>
    rw [entsC, List.flatMap_cons]
    cases i with
    | zero =>
      simp at he; subst he
      rw [Nat.zero_mul, Nat.zero_add, List.getElem?_append_left (by rw [entC_length]; exact hj)]
    | succ i =>
      rw [List.getElem?_append_right (by rw [entC_length]; omega), entC_length, show (i + 1) * 8 + j - 8 = i * 8 + j by omega]
      exact ih i (by simpa using he)

def curC (c : Nat × Nat) : Value := .pointer (some ⟨c.1, 0, none⟩)
def natC (n : Nat) : Value := .int .i64 (n : Int)

/-- A table in memory: its block, its rows, its cursors. O: the blocks that are its own. -/
structure TabV (w : World) (T : Nat) (lv sv cv : Value) (es : List Ent) (sl : List Nat) (live : Nat) (cs : List (Nat × Nat)) (O : Nat → Prop) : Prop where
  blk : Blk w T 117 #[lv, sv, .int .i64 (live : Int), cv]
  ents : w.ownsRow 0 126 8 lv es.length (entsC es)
  slots : w.ownsRow 0 3 1 sv sl.length (sl.map natC)
  curs : w.ownsRow 0 30 1 cv cs.length (cs.map curC)
  cur : ∀ c ∈ cs, Blk w c.1 143 #[.pointer (some ⟨T, 0, none⟩), .int .i64 (c.2 : Int)]
  nodup : (cs.map Prod.fst).Nodup
  oT : O T
  oL : ∀ g, lv.ownBlock = some g → O g
  oS : ∀ g, sv.ownBlock = some g → O g
  oC : ∀ g, cv.ownBlock = some g → O g
  oc : ∀ c ∈ cs, O c.1
  oLt : ∀ k, O k → k < w.heap.size

theorem TabV.upd {w w' : World} {T : Nat} {lv sv cv : Value} {es : List Ent} {sl : List Nat} {live : Nat} {cs : List (Nat × Nat)} {O M : Nat → Prop} (h : TabV w T lv sv cv es sl live cs O) (u : Upd w w' M) (hM : ∀ k, O k → ¬ M k) : TabV w' T lv sv cv es sl live cs O :=
  ⟨u.blk h.blk (hM _ h.oT), u.own h.ents (fun k hk => hM k (h.oL k hk)), u.own h.slots (fun k hk => hM k (h.oS k hk)), u.own h.curs (fun k hk => hM k (h.oC k hk)),
   fun c hc => u.blk (h.cur c hc) (hM _ (h.oc c hc)), h.nodup, h.oT, h.oL, h.oS, h.oC, h.oc, fun k hk => Nat.lt_of_lt_of_le (h.oLt k hk) u.size⟩
theorem TabV.below {w w' : World} {T : Nat} {lv sv cv : Value} {es : List Ent} {sl : List Nat} {live : Nat} {cs : List (Nat × Nat)} {O : Nat → Prop} (h : TabV w T lv sv cv es sl live cs O) (b : Below w.heap.size w w') : TabV w' T lv sv cv es sl live cs O :=
  h.upd (M := fun k => w.heap.size ≤ k) (Upd.of_below b (fun k hk => hk)) (fun k hk hM => by have := h.oLt k hk; omega)

theorem TabV.drew {w : World} {T : Nat} {lv sv cv : Value} {es : List Ent} {sl : List Nat} {live : Nat} {cs : List (Nat × Nat)} {O : Nat → Prop} (h : TabV w T lv sv cv es sl live cs O) : TabV w.drew T lv sv cv es sl live cs O :=
  ⟨h.blk, h.ents, h.slots, h.curs, h.cur, h.nodup, h.oT, h.oL, h.oS, h.oC, h.oc, h.oLt⟩

theorem own_shape {w : World} {B : Nat} {t : TypeId} {size n : Nat} {v : Value} {xs : List Value} (h : w.ownsRow B t size v n xs) : ∃ A cap, v = .slice A n cap ∧ (0 < n → ∃ g, A = some ⟨g, 0, none⟩) := by
  rcases h.2 with ⟨rfl, rfl⟩ | ⟨g, cap, cur, rfl, _⟩
  · exact ⟨none, 0, rfl, fun h => by omega⟩
  · exact ⟨_, _, rfl, fun _ => ⟨g, rfl⟩⟩

theorem ownsRow_kind8 {w : World} {B size n : Nat} {v : Value} {xs : List Value} {t : TypeId} (h : w.ownsRow B t size v n xs) : ∀ g, v.ownBlock = some g → ∃ c fz, w.heap[g]? = some (.cells c t fz) := by
  intro g hg
  rcases h.2 with ⟨rfl, _⟩ | ⟨g', cap, cur, rfl, _, hh, _⟩
  · simp [Value.ownBlock] at hg
  · obtain rfl : g' = g := by simpa [Value.ownBlock] using hg
    exact ⟨cur, _, hh⟩

theorem own_own_ne {w : World} {B size n B' size' n' : Nat} {v v' : Value} {xs xs' : List Value} {t t' : TypeId} (h : w.ownsRow B t size v n xs) (h' : w.ownsRow B' t' size' v' n' xs') (ht : t ≠ t') {g : Nat} (hv : v'.ownBlock = some g) : v.ownBlock ≠ some g := by
  intro hg
  obtain ⟨c1, f1, h1⟩ := ownsRow_kind8 h g hg
  obtain ⟨c2, f2, h2⟩ := ownsRow_kind8 h' g hv
  rw [h1] at h2
  exact ht (Obj.cells.inj (Option.some.inj h2)).2.1

theorem own_own_ne_opt {w : World} {B size n B' size' n' : Nat} {v v' : Value} {xs xs' : List Value} {t t' : TypeId} (h : w.ownsRow B t size v n xs) (h' : w.ownsRow B' t' size' v' n' xs') (ht : t ≠ t') {g cap : Nat} {m : Nat} (hv : v = .slice (some ⟨g, 0, none⟩) m cap := by rfl) : v.ownBlock ≠ v'.ownBlock := by
  intro e
  rw [hv] at e
  exact own_own_ne h h' ht e.symm (by rw [hv]; rfl)

theorem TabV.slot {w : World} {T g cap : Nat} {lv cv : Value} {es : List Ent} {sl : List Nat} {live : Nat} {cs : List (Nat × Nat)} {O : Nat → Prop} (h : TabV w T lv (.slice (some ⟨g, 0, none⟩) sl.length cap) cv es sl live cs O) (s : Nat) (hs : s < sl.length) :
    w.cell? ⟨g, s, none⟩ = some (.int .i64 ((sl.getD s 0 : Nat) : Int)) := by
  rw [World.ownsRow.cellAt h.slots s (by omega), List.getElem?_map, List.getElem?_eq_getElem hs]
  simp [natC, List.getD_eq_getElem?_getD, List.getElem?_eq_getElem hs]
theorem TabV.ent {w : World} {T g cap : Nat} {sv cv : Value} {es : List Ent} {sl : List Nat} {live : Nat} {cs : List (Nat × Nat)} {O : Nat → Prop} (h : TabV w T (.slice (some ⟨g, 0, none⟩) es.length cap) sv cv es sl live cs O) (i : Nat) (e : Ent) (he : es[i]? = some e) (j : Nat) (hj : j < 8) :
    w.cell? ⟨g, i * 8 + j, none⟩ = (entC e)[j]? := by
  have hi := (List.getElem?_eq_some_iff.1 he).1
  rw [World.ownsRow.cellAt h.ents (i * 8 + j) (by omega), entsC_get es i j e he hj]

/-- A slot's number. -/
theorem TabV.setSlot {w : World} {T g cap : Nat} {lv cv : Value} {es : List Ent} {sl : List Nat} {live : Nat} {cs : List (Nat × Nat)} {O : Nat → Prop} (h : TabV w T lv (.slice (some ⟨g, 0, none⟩) sl.length cap) cv es sl live cs O) (s x : Nat) :
    TabV (w.setCell ⟨g, s, none⟩ (.int .i64 (x : Int))) T lv (.slice (some ⟨g, 0, none⟩) sl.length cap) cv es (sl.set s x) live cs O := by
  have hst := World.ownsRow.stored h.slots s (.int .i64 (x : Int))
  have hg : (Value.slice (some ⟨g, 0, none⟩) sl.length cap).ownBlock = some g := rfl
  obtain ⟨c1, f1, h1⟩ := ownsRow_kind8 h.slots g hg
  have hne : ∀ {k : Nat} {t : TypeId} {cs : Array Value}, Blk w k t cs → t ≠ 3 → k ≠ g := by
    intro k t cs hb ht e
    subst e
    rw [show w.heap[k]? = _ from hb] at h1
    exact ht (Obj.cells.inj (Option.some.inj h1)).2.1
  refine ⟨h.blk.far (hne h.blk (by decide)) _, h.ents.kept hst.2 (.inr (own_own_ne h.ents h.slots (by decide) hg)), ?_, h.curs.kept hst.2 (.inr (own_own_ne h.curs h.slots (by decide) hg)), fun c hc => (h.cur c hc).far (hne (h.cur c hc) (by decide)) _, h.nodup, h.oT, h.oL, h.oS, h.oC, h.oc, fun k hk => by have := h.oLt k hk; simpa using this⟩
  have := hst.1
  rw [List.length_set, List.map_set]
  exact this
theorem TabV.widen {w : World} {T : Nat} {lv sv cv : Value} {es : List Ent} {sl : List Nat} {live : Nat} {cs : List (Nat × Nat)} {O O' : Nat → Prop} (h : TabV w T lv sv cv es sl live cs O) (h1 : ∀ k, O k → O' k) (h2 : ∀ k, O' k → k < w.heap.size) : TabV w T lv sv cv es sl live cs O' :=
  ⟨h.blk, h.ents, h.slots, h.curs, h.cur, h.nodup, h1 _ h.oT, fun g hg => h1 _ (h.oL g hg), fun g hg => h1 _ (h.oS g hg), fun g hg => h1 _ (h.oC g hg), fun c hc => h1 _ (h.oc c hc), h2⟩

theorem hF_bd (k n : Int) (j : Nat) : 0 ≤ hF k n j ∧ hF k n j < 4294967296 := by
  cases j <;> exact ⟨Int.emod_nonneg _ (by decide), Int.emod_lt_of_pos _ (by decide)⟩
theorem hG_bd (k n : Int) (s : ByteArray) (j : Nat) : 0 ≤ hG k n s j ∧ hG k n s j < 4294967296 := by
  cases j
  · exact hF_bd _ _ _
  · exact ⟨Int.emod_nonneg _ (by decide), Int.emod_lt_of_pos _ (by decide)⟩
theorem hs_bd (v : K3) : (hs v : Int) < 4294967296 := by
  have := hG_bd v.1 v.2.1 v.2.2 v.2.2.size
  unfold hs; omega
theorem hs_eq (v : K3) : hG v.1 v.2.1 v.2.2 v.2.2.size = (hs v : Int) := by
  have := hG_bd v.1 v.2.1 v.2.2 v.2.2.size
  unfold hs; omega

/-- How many slots there may be. -/
def SlotN (n : Nat) : Prop := n = 0 ∨ ∃ p, 3 ≤ p ∧ p ≤ 20 ∧ n = 2 ^ p
theorem slotN_le {n : Nat} (h : SlotN n) : n ≤ 1048576 := by
  rcases h with rfl | ⟨p, _, h2, rfl⟩
  · decide
  · exact Nat.le_trans (Nat.pow_le_pow_right (n := 2) (by decide) h2) (by decide)
theorem mask_at {n : Nat} (h : SlotN n) (h0 : 0 < n) (x : Nat) (hx : (x : Int) < 4294967296) : bits .and .i64 (x : Int) ((n : Int) - 1) = ((x % n : Nat) : Int) := by
  rcases h with rfl | ⟨p, h1, h2, rfl⟩
  · omega
  · have e : (((2 : Nat) ^ p : Nat) : Int) = 2 ^ p := by simp
    have := bits_mask .i64 63 (by decide) (fun n h0 h1 => IntWalk.i64_in n (by omega)) p (by omega) (x : Int) (by omega) (by omega)
    rw [e, this]
    simp

/-- SameZero of two values. -/
theorem veq_norm (a b : K3) : veq (kK a.1) (kN a.1 a.2.1) (kS a.1 a.2.2) (kK b.1) (kN b.1 b.2.1) (kS b.1 b.2.2) = decide (norm a = norm b) := by
  unfold veq norm
  rw [Bool.eq_iff_iff]
  simp only [Bool.and_eq_true, beq_iff_eq, decide_eq_true_eq, Prod.mk.injEq]
  exact ⟨fun ⟨h1, h2, h3⟩ => ⟨h1, h2, ba_ext h3⟩, fun ⟨h1, h2, h3⟩ => ⟨h1, h2, by rw [h3]⟩⟩
theorem same_n (a b : K3) (r : Bool) (hr : Hid (r = decide (norm a = norm b))) (w : World) : Calls Tryd.prog 63 #[VK a, VK b] w (Ret (.bool r) w) := by
  rw [hr.out, ← veq_norm]
  exact samezero_any _ _ _ _ _ _ _ _ _ _ _ _ w (key_all _ _ _) (key_all _ _ _)
theorem hash_n (a : K3) (H : Int) (hH : Hid ((hs (norm a) : Int) = H)) (w : World) (h : a.2.2.size ≤ 4000) : Calls Tryd.prog 62 #[VK a] w (Ret (.int .u32 H) w) := by
  have := hash_any a.1 a.2.1 a.2.2 _ _ _ w (by unfold kS; split; exact Nat.zero_le _; exact h) (key_all _ _ _)
  rw [← hH.out, ← hs_eq]
  exact this

/-- What is known of the steps that find has taken. -/
def Gone (es : List Ent) (sl : List Nat) (k : K3) (L H d : Nat) : Prop := ∀ d', d' < d → sl.getD (pr L H d') 0 ≠ 0 ∧ ∀ (i : Nat) (e : Ent), sl.getD (pr L H d') 0 = i + 1 → es[i]? = some e → isKey k e = false
theorem find_next {es : List Ent} {sl : List Nat} {k : K3} {L H d d0 s j : Nat} {e : Ent} (h : Gone es sl k L H d) (hd0 : d0 < L) (hz0 : sl.getD (pr L H d0) 0 = 0) (hs : pr L H d = s) (hj : sl.getD s 0 = j + 1) (he : es[j]? = some e) (hk : isKey k e = false) :
    Gone es sl k L H (d + 1) ∧ d + 1 < L := by
  have hnz : Gone es sl k L H (d + 1) := by
    intro d' hd'
    rcases Nat.lt_or_ge d' d with h5 | h5
    · exact h d' h5
    · obtain rfl : d' = d := by omega
      rw [hs, hj]
      refine ⟨by omega, fun i f h6 h7 => ?_⟩
      obtain rfl : i = j := by omega
      rw [he] at h7
      obtain rfl := Option.some.inj h7
      exact hk
  refine ⟨hnz, ?_⟩
  rcases Nat.lt_or_ge d d0 with h5 | h5
  · omega
  · exact absurd hz0 (hnz d0 (by omega)).1
theorem find_meas {L H d s : Nat} (h : d + 1 < L) (hs : pr L H d = s) : L - (pr L H (d + 1) + L - H % L) % L < L - (s + L - H % L) % L := by
  rw [← hs, pr_back h, pr_back (by omega)]; omega

def FindP (es : List Ent) (sl : List Nat) (k : K3) (w : World) (e : Ending) (w' : World) : Prop :=
  ∃ (i : Int) (s : Nat), e = .returned (.tuple #[.int .i64 i, .int .i64 (s : Int)]) ∧ FindR es sl k i s ∧ Below w.heap.size w w'

set_option maxHeartbeats 8000000 in
set_option maxRecDepth 100000 in
theorem find_any (T : Nat) (lv sv cv : Value) (es : List Ent) (sl : List Nat) (live : Nat) (cs : List (Nat × Nat)) (O : Nat → Prop) (k : K3) (w : World) (h : TabV w T lv sv cv es sl live cs O) (c : Core es sl) (hn : SlotN sl.length) (hload : sl.length = 0 ∨ es.length < sl.length) (hk : k.2.2.size ≤ 4000) :
    Calls Tryd.prog 46 #[.pointer (some ⟨T, 0, none⟩), VK k] w (FindP es sl k w) := by
  obtain ⟨A, capS, rfl, hA⟩ := own_shape h.slots
  obtain ⟨AL, capL, rfl, hAL⟩ := own_shape h.ents
  obtain ⟨L, hL⟩ : ∃ L, sl.length = L := ⟨_, rfl⟩
  have h2 := (h.below ((Below.refl _ w).alloc (Nat.le_refl _) (SC k.1 k.2.1 k.2.2)))
  have x1 : (w.alloc (SC k.1 k.2.1 k.2.2)).cell? ⟨T, 1, none⟩ = some (.slice A L capS) := by rw [h2.blk.cell, ← hL]; rfl
  rw [hL] at hA
  have HL := Lib.hid hL
  clear hL
  by_cases h0 : L = 0
  · have t0 : ((L : Int) == 0) = true := by simp [h0]
    have H0 := Lib.hid h0
    clear h0
    rw [HL.out] at h h2
    go_enter Tryd.func46, Tryd.ntmps46
    go_wp2
    go_ret2
    exact ⟨-1, 0, rfl, .none0 (by rw [HL.out, H0.out]), (Below.refl _ _).alloc (Nat.le_refl _) _⟩
  · have t0 : ((L : Int) == 0) = false := by rw [beq_eq_false_iff_ne]; omega
    obtain ⟨g, rfl⟩ := hA (by omega)
    obtain ⟨H, hH⟩ : ∃ H, hs (norm k) = H := ⟨_, rfl⟩
    have hHb := hs_bd (norm k)
    rw [hH] at hHb
    obtain ⟨X, hX⟩ : ∃ X : Int, (H : Int) = X := ⟨_, rfl⟩
    have HH : Hid ((hs (norm k) : Int) = X) := Lib.hid (by rw [hH, hX])
    have HX : Hid ((H : Int) = X) := Lib.hid hX
    rw [HL.out] at hload
    obtain ⟨d0, hd0, hz0⟩ := c.free (by rw [HL.out]; rcases hload with h' | h' <;> omega) H
    have hL9 := slotN_le hn
    rw [HL.out] at hn hd0 hz0 hL9
    have hm := mask_at hn (by omega) H hHb
    have hmk : ∀ s : Nat, s < L → bits .and .i64 (((s + 1 : Nat) : Nat) : Int) ((L : Int) - 1) = (((s + 1) % L : Nat) : Int) := fun s hs => mask_at hn (by omega) (s + 1) (by omega)
    have hpr0 : H % L = pr L H 0 := by unfold pr; rw [Nat.add_zero]
    rw [hpr0, hX] at hm
    have X0 : 0 ≤ X := by omega
    have X1 : X < 4294967296 := by omega
    have HL9 := Lib.hid hL9
    have Hhm := Lib.hid hmk
    have HES := Lib.hid (show es.length ≤ 1048576 by rcases hload with h' | h' <;> omega)
    have hwr : wrap64 ((L : Int) - 1) = (L : Int) - 1 := by unfold wrap64; omega
    have hpl : ∀ d, pr L H d < L := fun d => pr_lt H d (by omega)
    have HC := Lib.hid c
    have HN := Lib.hid hn
    have b0 : Below w.heap.size w (w.alloc (SC k.1 k.2.1 k.2.2)) := (Below.refl _ _).alloc (Nat.le_refl _) _
    have kx := Blk.new w 26 #[.int .i64 k.1, .int .i64 k.2.1, .string k.2.2]
    have hzz : (w.alloc (SC k.1 k.2.1 k.2.2)).heap.size = w.heap.size + 1 := by simp
    have HZ := Lib.hid hzz
    clear hzz hH hpr0 hn c hload h h0 hHb hX hL9 hmk
    rw [HL.out] at h2
    have H2 := Lib.hid h2
    clear h2
    go_enter Tryd.func46, Tryd.ntmps46
    go_wp2_with fail
    have h2 := H2.out
    have hzz := HZ.out
    generalize w.alloc (SC k.1 k.2.1 k.2.2) = w0 at *
    clear H2 HZ
    refine (hash_n k X HH _ hk).mono ?_
    rintro e w1 ⟨rfl, b1⟩
    have bb := b0.trans (b1.mono (by omega))
    have h3 := h2.below b1
    have ky := kx.below b1 kx.lt
    have z1 := Nat.lt_of_lt_of_le kx.lt b1.size
    clear b1 kx x1 h2 hzz
    rw [← HL.out] at h3
    have hwx : IntKind.i64.wrap X = X := IntWalk.i64_in _ (by omega)
    go_wp2_with fail
    go_loopw [7] (fun sx wr => ∃ d : Nat, d < L ∧ sx = .int .i64 (pr L H d : Nat) ∧ Gone es sl k L H d ∧ Below w1.heap.size w1 wr) (fun sx _ => L - ((intOf sx).toNat + L - H % L) % L)
    case atStart => exact ⟨0, by omega, rfl, fun d' hd' => by omega, Below.refl _ _⟩
    case round =>
      obtain ⟨d, hd, rfl, hno, hbr⟩ := hrel
      have hS := hpl d
      have h4 := h3.below hbr
      have hmes := pr_back (h := H) hd
      have hsuc := pr_succ (n := L) H d
      have hst := Hhm.out (pr L H d) hS
      rw [← hsuc] at hst
      have c1 : wr.cell? ⟨T, 1, none⟩ = some (.slice (some ⟨g, 0, none⟩) L capS) := by rw [h4.blk.cell, ← HL.out]; rfl
      have c0 : wr.cell? ⟨T, 0, none⟩ = some (.slice AL es.length capL) := by rw [h4.blk.cell]; rfl
      have cs0 := h4.slot (pr L H d) (by rw [HL.out]; exact hS)
      have Hno := Lib.hid hno
      have Hmes := Lib.hid hmes
      obtain ⟨s, hs⟩ : ∃ s, pr L H d = s := ⟨_, rfl⟩
      have HSS := Lib.hid hs
      rw [hs] at hS cs0 hst ⊢
      have Hsuc := Lib.hid hsuc
      obtain ⟨n, hnn⟩ : ∃ n, sl.getD s 0 = n := ⟨_, rfl⟩
      rw [hnn] at cs0
      have HNN := Lib.hid hnn
      have s0 : (0 : Int) ≤ (s : Int) := by omega
      have s1 : (s : Int) < (L : Int) := by omega
      clear hno hmes hsuc hs hnn
      cases n with
      | zero =>
        have cz : wr.cell? ⟨g, s, none⟩ = some (.int .i64 0) := cs0
        clear cs0 hst
        go_wp2
        go_ret2
        refine ⟨-1, s, rfl, ?_, bb.trans (hbr.mono bb.size)⟩
        have hz : sl.getD (pr L H d) 0 = 0 := by rw [HSS.out]; exact HNN.out
        have hH2 : hs (norm k) = H := by have := HH.out; have := HX.out; omega
        have hno2 : ∀ (i : Nat) (e : Ent), es[i]? = some e → isKey k e = false :=
          HC.out.nokey (d := d) (by rw [HL.out]; exact hd) (by rw [HL.out, hH2]; exact hz) (fun d' hd' i e h5 h6 => (Hno.out d' hd').2 i e (by rw [HL.out, hH2] at h5; exact h5) h6)
        have := FindR.none (es := es) (sl := sl) (k := k) d (by rw [HL.out]; exact hd) (by rw [HL.out, hH2]; exact hz) (fun d' hd' => by rw [HL.out, hH2]; exact (Hno.out d' hd').1) hno2
        rw [HL.out, hH2, HSS.out] at this
        exact this
      | succ j =>
        have hjl := HC.out.inr s j HNN.out
        obtain ⟨gL, rfl⟩ := hAL (by omega)
        obtain ⟨e, he⟩ : ∃ e, es[j]? = some e := ⟨_, List.getElem?_eq_getElem hjl⟩
        have e0 : wr.cell? ⟨gL, j * 8, none⟩ = some (.int .i64 e.key.1) := h4.ent j e he 0 (by decide)
        have e1 : wr.cell? ⟨gL, j * 8 + 1, none⟩ = some (.int .i64 e.key.2.1) := h4.ent j e he 1 (by decide)
        have e2 : wr.cell? ⟨gL, j * 8 + 2, none⟩ = some (.string e.key.2.2) := h4.ent j e he 2 (by decide)
        have e7 : wr.cell? ⟨gL, j * 8 + 7, none⟩ = some (.bool e.grave) := h4.ent j e he 7 (by decide)
        have kz := ky.below hbr z1
        have y0 : wr.cell? ⟨w.heap.size, 0, none⟩ = some (.int .i64 k.1) := by rw [kz.cell]; rfl
        have y1 : wr.cell? ⟨w.heap.size, 1, none⟩ = some (.int .i64 k.2.1) := by rw [kz.cell]; rfl
        have y2 : wr.cell? ⟨w.heap.size, 2, none⟩ = some (.string k.2.2) := by rw [kz.cell]; rfl
        have cj : wr.cell? ⟨g, s, none⟩ = some (.int .i64 ((j : Int) + 1)) := cs0
        have hj1 : (j : Int) < (es.length : Int) := by omega
        have hj0 : (0 : Int) ≤ (j : Int) := by omega
        have hjw : wrap64 (j : Int) = (j : Int) := by have := HES.out; unfold wrap64; omega
        have HE := Lib.hid he
        clear cs0 he
        have Q0 := fun d os => cell_regrown e0 d os
        have Q1 := fun d os => cell_regrown e1 d os
        have Q2 := fun d os => cell_regrown e2 d os
        have Q7 := fun d os => cell_regrown e7 d os
        have R0 := fun d os => cell_regrown y0 d os
        have R1 := fun d os => cell_regrown y1 d os
        have R2 := fun d os => cell_regrown y2 d os
        obtain ⟨gr, hgr⟩ : ∃ b, e.grave = b := ⟨_, rfl⟩
        obtain ⟨sm, hsm⟩ : ∃ b, b = decide (norm e.key = norm k) := ⟨_, rfl⟩
        have Hsm := Lib.hid hsm
        have Hgr := Lib.hid hgr
        have D := fun d os => Calls.regrown_of (same_n e.key k sm Hsm (grow (redrawn wr d) os))
        rw [hgr] at Q7 e7
        clear hsm hgr e0 e1 e2 y0 y1 y2
        go_wp2_with fail
        go_cut [60] (fun s60 wx => s60 = .bool (!gr && sm) ∧ Below wr.heap.size wr wx)
        case first =>
          cases gr
          all_goals
            refine wp_region_quiet_below (by kernel_rfl) (by kernel_rfl) ?_
            repeat (first | go_big_quiet_step (with_reducible exact D _ _) | quiet_step (with_reducible exact D _ _))
            refine wpQuiet_nil ?_
            intro _ hw'
            obtain ⟨⟨dq, osq⟩, hw''⟩ := hw'
            subst hw''
            go_wp2_with fail
            go_meet
            exact ⟨rfl, below_regrown wr dq osq⟩
        case rest =>
        obtain ⟨rfl, hbq⟩ := hcut
        have bq2 := hbr.trans (hbq.mono hbr.size)
        have hst2 : bits .and .i64 ((s : Int) + 1) ((L : Int) - 1) = ((pr L H (d + 1) : Nat) : Int) := hst
        have hkey : isKey k e = (!gr && sm) := by rw [isKey, Hgr.out, Hsm.out]
        have HK := Lib.hid hkey
        have hsw : wrap64 ((s : Int) + 1) = (s : Int) + 1 := by have := HL9.out; unfold wrap64; omega
        clear D Q0 Q1 Q2 Q7 R0 R1 R2 hst hkey hbq
        cases hb : (!gr && sm) with
        | true =>
          have HB := Lib.hid hb
          clear hb
          go_wp2
          go_ret2
          refine ⟨(j : Int), s, by rw [hjw]; rfl, ?_, bb.trans (bq2.mono bb.size)⟩
          exact FindR.some s j e HE.out (by rw [HK.out, HB.out])
        | false =>
          have HX2 := Lib.hid (find_next Hno.out hd0 hz0 HSS.out HNN.out HE.out (by rw [HK.out, hb]))
          clear hb
          go_wp2
          go_roundw
          case rel => exact ⟨d + 1, HX2.out.2, rfl, HX2.out.1, bq2⟩
          case measure =>
            have := find_meas HX2.out.2 HSS.out
            simpa [intOf] using this
end Go.Proofs.YtdeboajjhpecbaaDoor
