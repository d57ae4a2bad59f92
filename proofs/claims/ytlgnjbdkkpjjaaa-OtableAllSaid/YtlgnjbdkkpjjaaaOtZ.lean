/- Contract of the reference's Next. -/
import Derived.Test.YtlgnjbdkkpjjaaaOtY
set_option linter.unusedVariables false
set_option linter.unusedSimpArgs false
namespace Go.Proofs.Ytlgnjbdkkpjjaaa
open Go.RowKit Go.Sort

abbrev ent0 : Ent := ⟨(0, 0, ⟨#[]⟩), (0, 0, ⟨#[]⟩), 0, false⟩
abbrev EA (x : Ent) : Value := .agg #[.int .i64 x.key.1, .int .i64 x.key.2.1, .string x.key.2.2, .int .i64 x.val.1, .int .i64 x.val.2.1, .string x.val.2.2, .int .i64 x.flags, .bool x.grave]
abbrev EC (x : Ent) : Array Value := #[.int .i64 x.key.1, .int .i64 x.key.2.1, .string x.key.2.2, .int .i64 x.val.1, .int .i64 x.val.2.1, .string x.val.2.2, .int .i64 x.flags, .bool x.grave]
def RNxtP (d n : Nat) (L : List Ent) (cl : Int) (w : World) (e : Ending) (w' : World) : Prop :=
  ((∃ x, (cp L)[n]? = some x ∧ e = .returned (.tuple #[EA x, .bool true]) ∧ ∃ a : Nat, a ≤ L.length ∧ cnt L a = n + 1 ∧ Blk w' d 83 #[.int .i64 (a : Int), .int .i64 cl, .bool false]) ∨
   ((cp L)[n]? = none ∧ e = .returned (.tuple #[EA ent0, .bool false]) ∧ ∃ a : Nat, Blk w' d 83 #[.int .i64 (a : Int), .int .i64 cl, .bool true])) ∧ Upd w w' (fun k => k = d)
set_option maxHeartbeats 1000000 in
theorem rnext_shut (M d : Nat) (a cc : Int) (w : World) (hd : Blk w d 83 #[.int .i64 a, .int .i64 cc, .bool true]) :
    Calls Try.prog 35 #[.pointer (some ⟨M, 0, none⟩), .pointer (some ⟨d, 0, none⟩)] w (Ret (.tuple #[EA ent0, .bool false]) w) := by
  have x2 : (w.alloc (.cells (EC ent0) 63)).cell? ⟨d, 2, none⟩ = some (.bool true) := by rw [(hd.alloc _).cell]; rfl
  have hl := hd.lt
  go_enter Try.func35, Try.ntmps35
  go_wp2
  exact bodyPost_ret (v := .tuple #[EA ent0, .bool false]) (by simp [results, Try.results35, go_sem]) rfl ⟨rfl, (Below.refl _ _).alloc (Nat.le_refl _) _⟩
/-- Next on its way. -/
structure NR (w : World) (M d : Nat) (lv : Value) (L : List Ent) (cl : Int) (O : Nat → Prop) (n a : Nat) (wr : World) : Prop where
  le : a ≤ L.length
  cn : cnt L a = n
  tab : RTab wr M lv L cl O
  upd : Upd w wr (fun k => k = d)
  rb : Blk wr w.heap.size 63 (EC ent0)
  db : Blk wr d 83 #[.int .i64 (a : Int), .int .i64 cl, .bool false]
theorem NR.drewN {w : World} {M d : Nat} {lv : Value} {L : List Ent} {cl : Int} {O : Nat → Prop} {n a : Nat} {wr : World} (h : NR w M d lv L cl O n a wr) (q : Nat) : NR w M d lv L cl O n a (wr.drewN q) :=
  ⟨h.le, h.cn, ⟨h.tab.blk, h.tab.ents, h.tab.oM, h.tab.oL, h.tab.oLt⟩, h.upd.drewN q, h.rb.drewN q, h.db.drewN q⟩
theorem NR.alloc {w : World} {M d : Nat} {lv : Value} {L : List Ent} {cl : Int} {O : Nat → Prop} {n a : Nat} {wr : World} (h : NR w M d lv L cl O n a wr) (o : Obj) : NR w M d lv L cl O n a (wr.alloc o) :=
  ⟨h.le, h.cn, h.tab.below ((Below.refl _ _).alloc (Nat.le_refl _) o), h.upd.alloc o, h.rb.alloc o, h.db.alloc o⟩
def atR (d : Nat) (w : World) : Nat := match w.cell? ⟨d, 0, none⟩ with | some (.int _ a) => a.toNat | _ => 0
theorem NR.step {w : World} {M d : Nat} {lv : Value} {L : List Ent} {cl : Int} {O : Nat → Prop} {n a : Nat} {wr : World} (h : NR w M d lv L cl O n a wr) (hdO : ¬ O d) (b : Nat) (v : Int) : RTab (wr.setCell ⟨d, 0, none⟩ (.int .i64 v)) M lv L cl O ∧ Upd w (wr.setCell ⟨d, 0, none⟩ (.int .i64 v)) (fun k => k = d) ∧
    Blk (wr.setCell ⟨d, 0, none⟩ (.int .i64 v)) w.heap.size 63 (EC ent0) ∧ Blk (wr.setCell ⟨d, 0, none⟩ (.int .i64 v)) d 83 #[.int .i64 v, .int .i64 cl, .bool false] :=
  ⟨h.tab.upd ((Upd.refl wr (fun k => k = d)).set d 0 _ rfl) (fun k hk e => hdO (e ▸ hk)), h.upd.set d 0 _ rfl, h.rb.far (h.rb.ne_ h.db (by decide)) _, h.db.set_ 0 _⟩
set_option maxHeartbeats 8000000 in
set_option maxRecDepth 100000 in
theorem rnext_any (M d at0 : Nat) (cc : Int) (lv : Value) (L : List Ent) (cl : Int) (O : Nat → Prop) (n : Nat) (w : World) (h : RTab w M lv L cl O) (hL : L.length ≤ 5000) (hd : Blk w d 83 #[.int .i64 (at0 : Int), .int .i64 cc, .bool false]) (hdO : ¬ O d)
    (ha : cc = cl → at0 ≤ L.length ∧ cnt L at0 = n) (hn : cc ≠ cl → n = 0) :
    Calls Try.prog 35 #[.pointer (some ⟨M, 0, none⟩), .pointer (some ⟨d, 0, none⟩)] w (RNxtP d n L cl w) := by
  have hb1 : Below w.heap.size w (w.alloc (.cells (EC ent0) 63)) := (Below.refl _ _).alloc (Nat.le_refl _) _
  have h1 := h.below hb1
  have rb := Blk.new w 63 (EC ent0)
  have db := hd.alloc (.cells (EC ent0) 63)
  have hdl := hd.lt
  have hu1 : Upd w (w.alloc (.cells (EC ent0) 63)) (fun k => k = d) := Upd.of_below_all hb1
  go_enter Try.func35, Try.ntmps35
  go_upto_region 1 with fail
  generalize (w.alloc (.cells (EC ent0) 63)) = w1 at *
  have x2 : w1.cell? ⟨d, 2, none⟩ = some (.bool false) := by rw [db.cell]; rfl
  have x1 : w1.cell? ⟨d, 1, none⟩ = some (.int .i64 cc) := by rw [db.cell]; rfl
  have m1 : w1.cell? ⟨M, 1, none⟩ = some (.int .i64 cl) := by rw [h1.blk.cell]; rfl
  have x0 : w1.cell? ⟨d, 0, none⟩ = some (.int .i64 (at0 : Int)) := by rw [db.cell]; rfl
  have zf0 := db.frozen 0
  have zf1 := db.frozen 1
  have hne : M ≠ d := h1.blk.ne_ db (by decide)
  have hne2 := hne.symm
  have zl := db.lt
  have ml := h1.blk.lt
  obtain ⟨bb, tb⟩ : ∃ b, (cc != cl) = b := ⟨_, rfl⟩
  have H1 := Lib.hid h1
  have HR := Lib.hid rb
  have HD := Lib.hid db
  have HU := Lib.hid hu1
  have HA := Lib.hid ha
  have HN := Lib.hid hn
  have HO := Lib.hid hdO
  clear h h1 hd hdO ha hn hb1 rb db hu1
  go_upto_region 3 with fail
  go_quiet (fail)
  go_upto_if 20 with fail
  go_cut [] (fun wx => ∃ a, NR w M d lv L cl O n a wx)
  case first =>
    cases bb
    · have hcc : cc = cl := by simpa using tb
      have hres : ∀ q, NR w M d lv L cl O n at0 (w1.drewN q) := fun q => by
        have h0 : NR w M d lv L cl O n at0 w1 := ⟨(HA.out hcc).1, (HA.out hcc).2, H1.out, HU.out, HR.out, by rw [← hcc]; exact HD.out⟩
        exact h0.drewN q
      have HRES := Lib.hid hres
      clear hres x0 x1 x2 m1
      go_wp2_with fail
      go_meet
      exact ⟨at0, HRES.out _⟩
    · have hcc : cc ≠ cl := by simpa using tb
      have hres : ∀ q, NR w M d lv L cl O n 0 (((w1.drewN q).setCell ⟨d, 1, none⟩ (.int .i64 cl)).setCell ⟨d, 0, none⟩ (.int .i64 0)) := fun q => by
        have hu : Upd (w1.drewN q) (((w1.drewN q).setCell ⟨d, 1, none⟩ (.int .i64 cl)).setCell ⟨d, 0, none⟩ (.int .i64 0)) (fun k => k = d) := ((Upd.refl _ (fun k => k = d)).set d 1 _ rfl).set d 0 _ rfl
        have ht : RTab (w1.drewN q) M lv L cl O := ⟨H1.out.blk, H1.out.ents, H1.out.oM, H1.out.oL, H1.out.oLt⟩
        have hrne : w.heap.size ≠ d := HR.out.ne_ HD.out (by decide)
        exact ⟨Nat.zero_le _, by rw [HN.out hcc]; rfl, ht.upd hu (fun k hk e => HO.out (e ▸ hk)), (HU.out.drewN q).trans hu, ((HR.out.drewN q).far (p := ⟨d, 1, none⟩) hrne _).far (p := ⟨d, 0, none⟩) hrne _, ((HD.out.drewN q).set_ 1 _).set_ 0 _⟩
      have HRES := Lib.hid hres
      clear hres
      have m1' : ∀ q, (w1.drewN q).cell? ⟨M, 1, none⟩ = some (.int .i64 cl) := fun q => m1
      have x1' : ∀ q, (w1.drewN q).cell? ⟨d, 1, none⟩ = some (.int .i64 cc) := fun q => x1
      have x0' : ∀ q, (w1.drewN q).cell? ⟨d, 0, none⟩ = some (.int .i64 (at0 : Int)) := fun q => x0
      go_wp2_with fail
      go_meet
      exact ⟨0, HRES.out _⟩
  case rest =>
    obtain ⟨a0, hr⟩ := hcut
    have HX := Lib.hid hr
    obtain ⟨AL, capL, rfl, hAL⟩ := own_shape H1.out.ents
    obtain ⟨m, hm⟩ : ∃ m, L.length = m := ⟨_, rfl⟩
    have HM := Lib.hid hm
    rw [hm] at hL
    have HAL := Lib.hid hAL
    clear hr x0 x1 x2 m1 zf0 zf1 H1 HR HD HU HA HN hm hAL zl ml tb
    go_wp2_with fail
    go_loopw [6] (fun _ wr => ∃ a : Nat, Hid (NR w M d (.slice AL L.length capL) L cl O n a wr)) (fun _ wr => L.length - atR d wr)
    case atStart => exact ⟨_, HX⟩
    case round =>
      clear HX
      obtain ⟨a, HX⟩ := hrel
      have x0 : wr.cell? ⟨d, 0, none⟩ = some (.int .i64 (a : Int)) := by rw [HX.out.db.cell]; rfl
      have m0 : wr.cell? ⟨M, 0, none⟩ = some (.slice AL m capL) := by rw [HX.out.tab.blk.cell, ← HM.out]; rfl
      have ham := HX.out.le
      rw [HM.out] at ham
      have zl := HX.out.db.lt
      have ml := HX.out.tab.blk.lt
      by_cases hlt : a < m
      · obtain ⟨g, rfl⟩ := HAL.out (by rw [HM.out]; omega)
        obtain ⟨x, hx⟩ : ∃ x, L[a]? = some x := ⟨_, List.getElem?_eq_getElem (by rw [HM.out]; exact hlt)⟩
        have t3 : decide ((a : Int) < (m : Int)) = true := by simp; omega
        have a0' : (0 : Int) ≤ (a : Int) := by omega
        have a1' : (a : Int) < (m : Int) := by omega
        have HXX := Lib.hid hx
        have HAt : Hid (atR d wr = a) := Lib.hid (by unfold atR; rw [x0]; rfl)
        go_upto_region 6 with fail
        go_quiet (fail)
        go_upto_region 7 with fail
        have hr3 := HX.out.drewN nq
        clear x0 m0 zl ml HX
        generalize wr.drewN nq = wd at *
        have x0 : wd.cell? ⟨d, 0, none⟩ = some (.int .i64 (a : Int)) := by rw [hr3.db.cell]; rfl
        have m0 : wd.cell? ⟨M, 0, none⟩ = some (.slice (some ⟨g, 0, none⟩) m capL) := by rw [hr3.tab.blk.cell, ← HM.out]; rfl
        have e0 : wd.cell? ⟨g, a * 8, none⟩ = some (.int .i64 x.key.1) := hr3.tab.ent a x hx 0 (by decide)
        have e1 : wd.cell? ⟨g, a * 8 + 1, none⟩ = some (.int .i64 x.key.2.1) := hr3.tab.ent a x hx 1 (by decide)
        have e2 : wd.cell? ⟨g, a * 8 + 2, none⟩ = some (.string x.key.2.2) := hr3.tab.ent a x hx 2 (by decide)
        have e3 : wd.cell? ⟨g, a * 8 + 3, none⟩ = some (.int .i64 x.val.1) := hr3.tab.ent a x hx 3 (by decide)
        have e4 : wd.cell? ⟨g, a * 8 + 4, none⟩ = some (.int .i64 x.val.2.1) := hr3.tab.ent a x hx 4 (by decide)
        have e5 : wd.cell? ⟨g, a * 8 + 5, none⟩ = some (.string x.val.2.2) := hr3.tab.ent a x hx 5 (by decide)
        have e6 : wd.cell? ⟨g, a * 8 + 6, none⟩ = some (.int .i64 x.flags) := hr3.tab.ent a x hx 6 (by decide)
        have e7 : wd.cell? ⟨g, a * 8 + 7, none⟩ = some (.bool x.grave) := hr3.tab.ent a x hx 7 (by decide)
        have hgl : g < wd.heap.size := (hr3.tab.ents.lt g rfl).2
        have zl := hr3.db.lt
        have ml := hr3.tab.blk.lt
        have HR := Lib.hid hr3
        clear hr3 hx
        go_cut [6] (fun s6 wx => s6 = .pointer (some ⟨wd.heap.size, 0, none⟩) ∧ ∃ q, wx = (wd.alloc (.cells (EC x) 63)).drewN q)
        case first =>
          go_region
          all_goals
            go_wp2_with fail
            go_meet
            first | exact ⟨rfl, _, rfl⟩ | exact ⟨rfl, 0, rfl⟩ | exact ⟨rfl, 1, rfl⟩
        case rest =>
        obtain ⟨rfl, q, rfl⟩ := hcut
        have hr5 := (HR.out.alloc (.cells (EC x) 63)).drewN q
        have hbx : Blk ((wd.alloc (.cells (EC x) 63)).drewN q) wd.heap.size 63 (EC x) := (Blk.new wd 63 (EC x)).drewN q
        have hrb := HR.out.rb.lt
        obtain ⟨b, hb⟩ : ∃ b, wd.heap.size = b := ⟨_, rfl⟩
        rw [hb] at hbx hrb zl
        rw [hb]
        have hdb : d ≠ b := by omega
        clear x0 m0 e0 e1 e2 e3 e4 e5 e6 e7 hgl ml HR
        generalize ((wd.alloc (.cells (EC x) 63)).drewN q) = W at *
        have x0 : W.cell? ⟨d, 0, none⟩ = some (.int .i64 (a : Int)) := by rw [hr5.db.cell]; rfl
        have f0 := hr5.db.frozen 0
        have aw : IntKind.i64.wrap ((a : Int) + 1) = (a : Int) + 1 := IntWalk.i64_in _ (by omega)
        obtain ⟨s1, s2, s3, s4⟩ := hr5.step HO.out 0 ((a : Int) + 1)
        have hbx2 : Blk (W.setCell ⟨d, 0, none⟩ (.int .i64 ((a : Int) + 1))) b 63 (EC x) := hbx.far hdb.symm _
        have HS := Lib.hid (And.intro s1 (And.intro s2 (And.intro s3 s4)))
        have HCN := Lib.hid hr5.cn
        have HBX := Lib.hid hbx2
        have hdl5 := hr5.db.lt
        clear hr5 s1 s2 s3 s4 hbx hbx2
        go_upto_region 9 with fail
        generalize (W.setCell ⟨d, 0, none⟩ (.int .i64 ((a : Int) + 1))) = W2 at *
        clear x0 f0
        have b7 : W2.cell? ⟨b, 7, none⟩ = some (.bool x.grave) := by rw [HBX.out.cell]; rfl
        have hcs := cnt_succ HXX.out
        have HCS := Lib.hid hcs
        clear hcs
        rcases hgr : x.grave with _ | _
        · rw [hgr] at b7
          have hP : w.heap.size ≠ b := by omega
          have hP2 := hP.symm
          obtain ⟨P, hPP⟩ : ∃ P, w.heap.size = P := ⟨_, rfl⟩
          obtain ⟨s1, s2, s3, s4⟩ := HS.out
          rw [hPP] at s3 hP hP2 hrb
          rw [hPP]
          have hPd : P ≠ d := s3.ne_ s4 (by decide)
          have b0 : W2.cell? ⟨b, 0, none⟩ = some (.int .i64 x.key.1) := by rw [HBX.out.cell]; rfl
          have b1 : W2.cell? ⟨b, 1, none⟩ = some (.int .i64 x.key.2.1) := by rw [HBX.out.cell]; rfl
          have b2 : W2.cell? ⟨b, 2, none⟩ = some (.string x.key.2.2) := by rw [HBX.out.cell]; rfl
          have b3 : W2.cell? ⟨b, 3, none⟩ = some (.int .i64 x.val.1) := by rw [HBX.out.cell]; rfl
          have b4 : W2.cell? ⟨b, 4, none⟩ = some (.int .i64 x.val.2.1) := by rw [HBX.out.cell]; rfl
          have b5 : W2.cell? ⟨b, 5, none⟩ = some (.string x.val.2.2) := by rw [HBX.out.cell]; rfl
          have b6 : W2.cell? ⟨b, 6, none⟩ = some (.int .i64 x.flags) := by rw [HBX.out.cell]; rfl
          have r0 : W2.cell? ⟨P, 0, none⟩ = some (.int .i64 0) := by rw [s3.cell]; rfl
          have r1 : W2.cell? ⟨P, 1, none⟩ = some (.int .i64 0) := by rw [s3.cell]; rfl
          have r2 : W2.cell? ⟨P, 2, none⟩ = some (.string ⟨#[]⟩) := by rw [s3.cell]; rfl
          have r3 : W2.cell? ⟨P, 3, none⟩ = some (.int .i64 0) := by rw [s3.cell]; rfl
          have r4 : W2.cell? ⟨P, 4, none⟩ = some (.int .i64 0) := by rw [s3.cell]; rfl
          have r5 : W2.cell? ⟨P, 5, none⟩ = some (.string ⟨#[]⟩) := by rw [s3.cell]; rfl
          have r6 : W2.cell? ⟨P, 6, none⟩ = some (.int .i64 0) := by rw [s3.cell]; rfl
          have r7 : W2.cell? ⟨P, 7, none⟩ = some (.bool false) := by rw [s3.cell]; rfl
          have g0 := s3.frozen 0
          have g1 := s3.frozen 1
          have g2 := s3.frozen 2
          have g3 := s3.frozen 3
          have g4 := s3.frozen 4
          have g5 := s3.frozen 5
          have g6 := s3.frozen 6
          have g7 := s3.frozen 7
          have lc := s3.lt
          have hget : (cp L)[n]? = some x := by
            have := cp_at HXX.out hgr
            rw [HCN.out] at this; exact this
          have hfin : ∀ w6, Upd W2 w6 (fun k => k = P) → RNxtP d n L cl w (.returned (.tuple #[EA x, .bool true])) w6 := fun w6 h6 => by
            have hu6 : Upd w w6 (fun k => k = d) := ((s2.mono (M' := fun k => k = d ∨ k = P) (fun k _ hk => .inl hk)).trans (h6.mono (fun k _ hk => .inr hk))).mono (fun k hk h => by
              rcases h with h | h
              · exact h
              · omega)
            exact ⟨.inl ⟨x, hget, rfl, a + 1, by rw [HM.out]; omega, by rw [HCS.out, hgr, HCN.out]; rfl, h6.blk s4 (fun e => hPd e.symm)⟩, hu6⟩
          have HF := Lib.hid hfin
          clear hfin hget s1 s2 s3 s4 HS HBX HCS
          go_wp2
          refine bodyPost_ret (v := .tuple #[EA x, .bool true]) ?_ rfl (HF.out _ ?_)
          · simp [results, Try.results35, go_sem, r0, r1, r2, r3, r4, r5, r6, r7, g0, g1, g2, g3, g4, g5, g6, g7, lc, hgr]
          · repeat (first | with_reducible exact Upd.refl _ _ | with_reducible refine Upd.set ?_ P _ _ rfl)
        · rw [hgr] at b7
          have hnew : NR w M d (.slice (some ⟨g, 0, none⟩) L.length capL) L cl O n (a + 1) W2 := ⟨by rw [HM.out]; omega, by rw [HCS.out, hgr, HCN.out]; rfl, HS.out.1, HS.out.2.1, HS.out.2.2.1, by have := HS.out.2.2.2; rw [show ((a + 1 : Nat) : Int) = (a : Int) + 1 by omega]; exact this⟩
          have hat2 : atR d W2 = a + 1 := by
            unfold atR; rw [hnew.db.cell]; show ((a + 1 : Nat) : Int).toNat = a + 1; omega
          have HNX := Lib.hid hnew
          have HA2 := Lib.hid hat2
          clear hnew hat2
          go_wp2_with fail
          go_roundw
          case rel => exact ⟨a + 1, HNX⟩
          case measure => rw [HA2.out, HAt.out, HM.out]; omega
      · obtain rfl : m = a := by omega
        have t3 : decide ((m : Int) < (m : Int)) = false := by simp
        go_upto_region 6 with fail
        go_quiet (fail)
        go_upto_region 11 with fail
        have hr3 := HX.out.drewN nq
        clear x0 m0 zl ml HX
        generalize wr.drewN nq = wd at *
        have x2 : wd.cell? ⟨d, 2, none⟩ = some (.bool false) := by rw [hr3.db.cell]; rfl
        have xf := hr3.db.frozen 2
        have zl := hr3.db.lt
        have hend : (cp L)[n]? = none := by
          have h1 := @cp_end L
          rw [HM.out, hr3.cn] at h1; exact h1
        have hd3 : Blk (wd.setCell ⟨d, 2, none⟩ (.bool true)) d 83 #[.int .i64 (m : Int), .int .i64 cl, .bool true] := hr3.db.set_ 2 _
        have hr4 : Blk (wd.setCell ⟨d, 2, none⟩ (.bool true)) w.heap.size 63 (EC ent0) := hr3.rb.far (hr3.rb.ne_ hr3.db (by decide)) _
        have hu3 : Upd w (wd.setCell ⟨d, 2, none⟩ (.bool true)) (fun k => k = d) := hr3.upd.set d 2 _ rfl
        obtain ⟨P, hPP⟩ : ∃ P, w.heap.size = P := ⟨_, rfl⟩
        rw [hPP] at hr4
        rw [hPP]
        have H3 := Lib.hid (And.intro hd3 (And.intro hr4 hu3))
        clear hr3 hd3 hr4 hu3
        go_upto_region 12 with fail
        generalize (wd.setCell ⟨d, 2, none⟩ (.bool true)) = W2 at *
        obtain ⟨hd3, hr4, hu3⟩ := H3.out
        have hPd : P ≠ d := hr4.ne_ hd3 (by decide)
        have r0 : W2.cell? ⟨P, 0, none⟩ = some (.int .i64 0) := by rw [hr4.cell]; rfl
        have r1 : W2.cell? ⟨P, 1, none⟩ = some (.int .i64 0) := by rw [hr4.cell]; rfl
        have r2 : W2.cell? ⟨P, 2, none⟩ = some (.string ⟨#[]⟩) := by rw [hr4.cell]; rfl
        have r3 : W2.cell? ⟨P, 3, none⟩ = some (.int .i64 0) := by rw [hr4.cell]; rfl
        have r4 : W2.cell? ⟨P, 4, none⟩ = some (.int .i64 0) := by rw [hr4.cell]; rfl
        have r5 : W2.cell? ⟨P, 5, none⟩ = some (.string ⟨#[]⟩) := by rw [hr4.cell]; rfl
        have r6 : W2.cell? ⟨P, 6, none⟩ = some (.int .i64 0) := by rw [hr4.cell]; rfl
        have r7 : W2.cell? ⟨P, 7, none⟩ = some (.bool false) := by rw [hr4.cell]; rfl
        have g0 := hr4.frozen 0
        have g1 := hr4.frozen 1
        have g2 := hr4.frozen 2
        have g3 := hr4.frozen 3
        have g4 := hr4.frozen 4
        have g5 := hr4.frozen 5
        have g6 := hr4.frozen 6
        have g7 := hr4.frozen 7
        have lc := hr4.lt
        have hfin : ∀ w6, Upd W2 w6 (fun k => k = P) → RNxtP d n L cl w (.returned (.tuple #[EA ent0, .bool false])) w6 := fun w6 h6 => by
          have hu6 : Upd w w6 (fun k => k = d) := ((hu3.mono (M' := fun k => k = d ∨ k = P) (fun k _ hk => .inl hk)).trans (h6.mono (fun k _ hk => .inr hk))).mono (fun k hk h => by
            rcases h with h | h
            · exact h
            · omega)
          exact ⟨.inr ⟨hend, rfl, m, h6.blk hd3 (fun e => hPd e.symm)⟩, hu6⟩
        have HF := Lib.hid hfin
        clear hfin hend hd3 hr4 hu3 H3 x2 xf
        go_wp2
        refine bodyPost_ret (v := .tuple #[EA ent0, .bool false]) ?_ rfl (HF.out _ ?_)
        · simp [results, Try.results35, go_sem, r0, r1, r2, r3, r4, r5, r6, r7, g0, g1, g2, g3, g4, g5, g6, g7, lc]
        · repeat (first | with_reducible exact Upd.refl _ _ | with_reducible refine Upd.set ?_ P _ _ rfl)
end Go.Proofs.Ytlgnjbdkkpjjaaa
