import Derived.Test.YtandanbojfdfjaaDoorRef1
import Derived.Deep.CutBlock
import Derived.Deep.DeepCutAuto
namespace Go.Proofs.YtandanbojfdfjaaDoor
open Go.ChangeShapes Go.WideShapes Go.ChangeAt Go.RowKit

def RSc (w : World) (s : St) (t : Nat) (e : Ending) (w' : World) : Prop :=
  ∃ v, e = .returned (.tuple #[.agg (rl v s.last s.size false), .int .u8 t]) ∧ w'.ownsRow w.heap.size 9 1 v s.recs.length (scs s.recs) ∧ Below w.heap.size w w'
/-- the size that the cell holds -/
def szAt (wr : World) (L : Nat) : Nat := match wr.cell? ⟨L, 2, none⟩ with | some v => (intOf v).toNat | _ => 0
theorem szAt_eq {wr : World} {L last k : Nat} {v : Value} {cl : Bool} (h : Blk wr L 77 (rl v last k cl)) : szAt wr L = k := by
  unfold szAt
  rw [h.cell 2 (.int .i64 k) rfl]
  simp [intOf]
structure RLp (w : World) (b : Bs) (R L : Nat) (s : St) (v : Value) (wr : World) : Prop where
  st : RSt b s
  log : Blk wr L 77 (rl v s.last s.size false)
  row : wr.ownsRow w.heap.size 9 1 v s.recs.length (scs s.recs)
  res : Blk wr R 77 (rl (.slice none 0 0) 0 0 false)
  bel : Below w.heap.size w wr
  siz : w.heap.size + 2 ≤ wr.heap.size

theorem Rd.conv {w : World} {B k o c : Nat} {l : Bs} (h : Rd w B (some ⟨k, o, none⟩) (bcs l)) : (convert 26 9 (.slice (some ⟨k, o, none⟩) l.length c)).run Tryd.prog w = .ok (.string ⟨l.toArray⟩) w :=
  Lib.run_convert_whole (P := Tryd.prog) w 26 5 9 (by kernel_rfl) (by kernel_rfl) (by kernel_rfl) k o ⟨l.toArray⟩ (rd_bytes h) c
theorem RLp.later {w wr w2 : World} {b : Bs} {R L : Nat} {s : St} {v : Value} (h : RLp w b R L s v wr) (hb : Below wr.heap.size wr w2) : RLp w b R L s v w2 :=
  ⟨h.st, (hb.block _ h.log.lt).trans h.log, ownsRow_later h.row hb, (hb.block _ h.res.lt).trans h.res, h.bel.trans (hb.mono h.bel.size), Nat.le_trans h.siz hb.size⟩
/-- the log's block is written: what else holds -/
theorem RLp.setL {w wr : World} {b : Bs} {R L : Nat} {s : St} {v : Value} (h : RLp w b R L s v wr) (i : Nat) (u : Value) (hL : w.heap.size ≤ L) (hne : R ≠ L) :
    (wr.setCell ⟨L, i, none⟩ u).ownsRow w.heap.size 9 1 v s.recs.length (scs s.recs) ∧ Blk (wr.setCell ⟨L, i, none⟩ u) R 77 (rl (.slice none 0 0) 0 0 false) ∧ Below w.heap.size w (wr.setCell ⟨L, i, none⟩ u) ∧ w.heap.size + 2 ≤ (wr.setCell ⟨L, i, none⟩ u).heap.size := by
  have hk := Kp.set wr L i u
  exact ⟨hk.row h.row fun k hk' e => row_ne h.log h.row (show (9 : TypeId) ≠ 77 by decide) (e ▸ hk'), hk.blk h.res hne, hk.below h.bel (fun k e => by omega), Nat.le_trans h.siz hk.size⟩
theorem rs_round {w w3 w4 : World} {b tx : Bs} {R L j ck c1 g4 cp4 : Nat} {s : St} {A1 : Option Addr} (hn : RSt b (s.add tx)) (hz : (s.add tx).size = j + 1) (hck : chk s.last tx = ck)
    (h3 : w3.ownsRow w.heap.size 9 1 (.slice A1 s.recs.length c1) s.recs.length (scs s.recs) ∧ Blk w3 R 77 (rl (.slice none 0 0) 0 0 false) ∧ Below w.heap.size w w3 ∧ w.heap.size + 2 ≤ w3.heap.size)
    (hl3 : Blk w3 L 77 ((rl (.slice A1 s.recs.length c1) s.last s.size false).setIfInBounds 1 (.int .i64 ck)))
    (hr4 : w4.ownsRow w.heap.size 9 1 (.slice (some ⟨g4, 0, none⟩) (s.recs.length + 1) cp4) (s.recs.length + 1) (scs s.recs ++ [.string ⟨tx.toArray⟩])) (hk4 : Kp w3 w4 (fun k => (Value.slice A1 s.recs.length c1).ownBlock = some k))
    (hl4 : Blk w4 L 77 ((rl (.slice A1 s.recs.length c1) s.last s.size false).setIfInBounds 1 (.int .i64 ck))) (hL : w.heap.size ≤ L) (hne : R ≠ L) :
    RLp w b R L (s.add tx) (.slice (some ⟨g4, 0, none⟩) (s.recs.length + 1) cp4) ((w4.setCell ⟨L, 0, none⟩ (.slice (some ⟨g4, 0, none⟩) (s.recs.length + 1) cp4)).setCell ⟨L, 2, none⟩ (.int .i64 ((j : Int) + 1))) := by
  have hb5 := (hl4.set 0 (.slice (some ⟨g4, 0, none⟩) (s.recs.length + 1) cp4)).set 2 (.int .i64 ((j : Int) + 1))
  have hk5 : Kp w4 ((w4.setCell ⟨L, 0, none⟩ (.slice (some ⟨g4, 0, none⟩) (s.recs.length + 1) cp4)).setCell ⟨L, 2, none⟩ (.int .i64 ((j : Int) + 1))) (fun k => k = L) := (Kp.set _ L 0 _).trans (Kp.set _ L 2 _)
  have hk34 : Kp w3 ((w4.setCell ⟨L, 0, none⟩ (.slice (some ⟨g4, 0, none⟩) (s.recs.length + 1) cp4)).setCell ⟨L, 2, none⟩ (.int .i64 ((j : Int) + 1))) (fun k => k = L ∨ (Value.slice A1 s.recs.length c1).ownBlock = some k) := (hk4.mono fun k _ h => .inr h).trans (hk5.mono fun k _ h => .inl h)
  refine ⟨hn, ?_, ?_, hk34.blk h3.2.1 ?_, hk34.below h3.2.2.1 ?_, Nat.le_trans h3.2.2.2 hk34.size⟩
  · rw [hz, show (s.add tx).last = ck from hck]
    exact hb5
  · have hr5 := hk5.row hr4 fun k hk e => row_ne hl4 hr4 (show (9 : TypeId) ≠ 77 by decide) (e ▸ hk)
    simpa [St.add, scs] using hr5
  · rintro (e | e)
    · exact hne e
    · exact row_ne h3.2.1 h3.1 (show (9 : TypeId) ≠ 77 by decide) e
  · rintro k (e | e)
    · omega
    · exact row_ge h3.1 k e
theorem linR_bad {x : Nat} {l : Bs} (hx : x < 9973) (h : recB l = false) : linR (x : Int) l = ([], 422) := by
  have : wrg (x : Int) l = 422 := by
    unfold wrg
    rw [if_neg (by omega), h]; rfl
  unfold linR
  rw [this]; rfl
theorem rs_end {w wr : World} {b : Bs} {R L : Nat} {s : St} {v : Value} (h : RLp w b R L s v wr) (hR : w.heap.size ≤ R) {t : Nat} (hsc : scanS b = (s, t)) :
    RSc w (scanS b).1 (scanS b).2 (.returned (.tuple #[.agg (rl v s.last s.size false), .int .u8 t])) (wr.setRow R (rl v s.last s.size false)) := by
  rw [hsc]
  have hk := Kp.setRow wr R (rl v s.last s.size false)
  refine ⟨v, rfl, hk.row h.row fun k hk' e => ?_, hk.below h.bel fun k e => by omega⟩
  subst e
  exact row_ne h.res h.row (show (9 : TypeId) ≠ 77 by decide) hk'
theorem res41 {R : Nat} {w : World} {cs : Array Value} (h : Blk w R 77 cs) (hs : cs.size = 4) (tmps : Array Value) (h2 : tmps.getD 2 undef = .pointer (some ⟨R, 0, none⟩)) : (results Tryd.f41 tmps).run Tryd.prog w = .ok (.tuple #[.agg cs, tmps.getD 3 undef]) w := by
  have h2' : tmps[2]?.getD undef = .pointer (some ⟨R, 0, none⟩) := by simpa using h2
  have hl := run_loadVar_row (P := Tryd.prog) w R 77 77 cs (0, 0) _ h rl_und rfl (by rw [hs]; exact rl_size)
  simp [results, Tryd.results41, h2', asAddr, hl]

set_option maxRecDepth 100000 in
set_option maxHeartbeats 4000000 in
theorem Scan_ref (A : Option Addr) (b : Bs) (c : Nat) (w : World) (hr : Rd w w.heap.size A (bcs b)) (hcap : b.length ≤ c) (hlen : b.length ≤ 2000000) :
    Calls Tryd.prog 41 #[.slice A b.length c] w (RSc w (scanS b).1 (scanS b).2) := by
  go_enter Tryd.func41, Tryd.ntmps41
  go_wp2_with fail
  have m0 := (Blk.new w (rl (.slice none 0 0) 0 0 false) 77).alloc (.cells (rl (.slice none 0 0) 1 0 false) 77)
  have m1 := Blk.new (w.alloc (.cells (rl (.slice none 0 0) 0 0 false) 77)) (rl (.slice none 0 0) 1 0 false) 77
  have hb1 : Below w.heap.size w ((w.alloc (.cells (rl (.slice none 0 0) 0 0 false) 77)).alloc (.cells (rl (.slice none 0 0) 1 0 false) 77)) := ((Below.refl _ _).alloc (Nat.le_refl _) _).alloc (by simp) _
  have hz1 : ((w.alloc (.cells (rl (.slice none 0 0) 0 0 false) 77)).alloc (.cells (rl (.slice none 0 0) 1 0 false) 77)).heap.size = w.heap.size + 2 := by simp
  rw [World.size_alloc] at m1
  have HInit : Hid (RLp w b w.heap.size (w.heap.size + 1) .zero (.slice none 0 0) ((w.alloc (.cells (rl (.slice none 0 0) 0 0 false) 77)).alloc (.cells (rl (.slice none 0 0) 1 0 false) 77))) := Lib.hid ⟨RSt.zero b, m1, World.ownsRow_nil _ _ _ _, m0, hb1, by omega⟩
  change Hid (RLp w b w.heap.size (w.heap.size + 1) .zero (.slice none 0 0) ((w.alloc (.cells #[Value.slice none 0 0, Value.int IntKind.i64 0, Value.int IntKind.i64 0, Value.bool false] 77)).alloc (.cells #[Value.slice none 0 0, Value.int IntKind.i64 1, Value.int IntKind.i64 0, Value.bool false] 77))) at HInit
  clear m0 m1 hb1 hz1
  generalize (w.alloc (.cells #[Value.slice none 0 0, Value.int IntKind.i64 0, Value.int IntKind.i64 0, Value.bool false] 77)).alloc (.cells #[Value.slice none 0 0, Value.int IntKind.i64 1, Value.int IntKind.i64 0, Value.bool false] 77) = w1 at *
  obtain ⟨R, hR⟩ : ∃ R, w.heap.size = R := ⟨_, rfl⟩
  obtain ⟨L, hL⟩ : ∃ L, R + 1 = L := ⟨_, rfl⟩
  have HR := Lib.hid hR
  have HL := Lib.hid hL
  rw [hR, hL] at HInit
  rw [hR, hL]
  clear hR hL
  have HRd := Lib.hid hr
  clear hr
  go_loopw [5] (fun _ wr => ∃ s v, Hid (RLp w b R L s v wr)) (fun _ wr => b.length - szAt wr L)
  case atStart => exact ⟨.zero, _, HInit⟩
  case round =>
    clear HInit
    obtain ⟨s, v, HI⟩ := hrel
    obtain ⟨hst, hlog, hrow, hres, hbel, hsiz⟩ := HI.out
    obtain ⟨A1, c1, rfl, hc1, hrd1, _⟩ := row_rd hrow
    clear hrd1
    have HSt := Lib.hid hst
    have HLog := Lib.hid hlog
    have hle := hst.le
    have d2 := hlog.cell 2 (.int .i64 s.size) rfl
    have d1 := hlog.cell 1 (.int .i64 s.last) rfl
    have d0 := hlog.cell 0 (.slice A1 s.recs.length c1) rfl
    have hsz := szAt_eq hlog
    have hlast := hst.last
    have HRow := Lib.hid hrow
    have HRes := Lib.hid hres
    have HBel := Lib.hid hbel
    have HSz := Lib.hid hsz
    have hrecs := hst.recs
    clear hst hlog hrow hres hbel hsz
    by_cases hlt : s.size < b.length
    · obtain ⟨b0, off, rfl, hb0, hbc⟩ := (HRd.out.keep HBel.out HBel.out.size).byteR (by omega)
      have HBc := Lib.hid hbc
      clear hbc
      go_wp2_with fail
      obtain ⟨wo, rfl⟩ : ∃ wo : World, wo = wr := ⟨_, rfl⟩
      go_loopw [5] (fun e wx => ∃ j : Nat, s.size ≤ j ∧ j ≤ b.length ∧ e = .int .i64 j ∧ Hid (∀ i, s.size ≤ i → i < j → b.getD i 0 ≠ 10) ∧ wx = wo) (fun e _ => b.length - (intOf e).toNat)
      case atStart => exact ⟨s.size, Nat.le_refl _, hle, rfl, Lib.hid (fun i h1 h2 => by omega), rfl⟩
      case round =>
        obtain ⟨j, hj1, hj2, rfl, HN, rfl⟩ := hrel
        by_cases hjl : j < b.length
        · have g := HBc.out j hjl
          by_cases h10 : b.getD j 0 = 10
          · have hcb : (((b.getD j 0).toNat : Int) != 10) = false := by rw [h10]; rfl
            have hje : ((j : Int) == (b.length : Int)) = false := by rw [beq_eq_false_iff_ne]; omega
            have H10 := Lib.hid h10
            clear h10
            generalize b.getD j 0 = ch at g hcb
            by_cases h5 : j < s.size + 5
            · have h5' : decide ((j : Int) < (s.size : Int) + 5) = true := decide_eq_true (by omega)
              go_wp2_with (first | (refine wpList_load_row rfl 77 (.tmp 4) rfl L rfl 77 _ (0, 0) _ HLog.out rl_und rfl rl_size ?_) | (refine wpList_store_row rfl 77 (.tmp 2) (.tmp 40) rfl R (rl (.slice A1 s.recs.length c1) s.last s.size false) rfl rfl 77 _ HRes.out rl_size (by kernel_rfl) (by kernel_rfl) ?_))
              exact bodyPost_ret (res41 (HRes.out.setRow _) rfl _ rfl) rfl (rs_end HI.out (by have := HR.out; omega) (HSt.out.short hj1 hjl HN.out H10.out h5))
            · have h5' : decide ((j : Int) < (s.size : Int) + 5) = false := decide_eq_false (by omega)
              have hcc : ¬ c = s.size + 5 := by omega
              have hcc2 : s.size + 5 ≤ j := by omega
              have hjc : j ≤ c := by omega
              have htl := txt_len hcc2 hjl
              have hcv : (convert 26 9 (.slice (some ⟨b0, off + (s.size + 5), none⟩) (j - (s.size + 5)) (c - (s.size + 5)))).run Tryd.prog wr = .ok (.string ⟨(txt b s.size j).toArray⟩) wr := by
                have h := (((HRd.out.keep HBel.out HBel.out.size).cut (s.size + 5)).take (j - (s.size + 5)))
                rw [bcs_drop, bcs_take] at h
                have h2 := Rd.conv (c := c - (s.size + 5)) h
                rw [show ((b.drop (s.size + 5)).take (j - (s.size + 5))).length = j - (s.size + 5) from htl] at h2
                exact h2
              have HTl := Lib.hid htl
              have HL' : ∀ W, Hid (Calls Tryd.prog 28 #[.int .i64 (s.last : Int), .string ⟨(txt b s.size j).toArray⟩] W fun e w' => e = .returned (.tuple #[.string ⟨(linR s.last (txt b s.size j)).1.toArray⟩, .int .i64 (linR s.last (txt b s.size j)).2]) ∧ Below W.heap.size W w') :=
                fun W => Lib.hid (Lin_ref (s.last : Int) ⟨(txt b s.size j).toArray⟩ W (by omega) (by omega) (by show (txt b s.size j).length ≤ _; rw [htl]; unfold maxLen; omega))
              clear htl
              cases hrec : recB (txt b s.size j)
              · have HREC := Lib.hid hrec
                rw [linR_bad hlast hrec] at HL'
                clear hrec
                go_wp2_with fail
                refine (HL' wr).out.mono ?_
                rintro e w2 ⟨rfl, hb2⟩
                have HI2 := Lib.hid (HI.out.later hb2)
                have HLog2 := Lib.hid HI2.out.log
                have HRes2 := Lib.hid HI2.out.res
                clear hb2
                go_wp2_with (first | (refine wpList_load_row rfl 77 (.tmp 4) rfl L rfl 77 _ (0, 0) _ HLog2.out rl_und rfl rl_size ?_) | (refine wpList_store_row rfl 77 (.tmp 2) (.tmp 68) rfl R (rl (.slice A1 s.recs.length c1) s.last s.size false) rfl rfl 77 _ HRes2.out rl_size (by kernel_rfl) (by kernel_rfl) ?_))
                exact bodyPost_ret (res41 (HRes2.out.setRow _) rfl _ rfl) rfl (rs_end HI2.out (by have := HR.out; omega) (HSt.out.bad hcc2 hjl HN.out H10.out (.inl HREC.out)))
              · have HREC := Lib.hid hrec
                rw [linR_ok hlast hrec] at HL'
                clear hrec
                have hcc0 : ¬ c = s.size := by omega
                have hwl : (whole b s.size j).length = j + 1 - s.size := by unfold whole; simp; omega
                have HWl := Lib.hid hwl
                clear hwl
                have HCv2 : ∀ W, Below wr.heap.size wr W → Hid ((convert 26 9 (.slice (some ⟨b0, off + s.size, none⟩) (j + 1 - s.size) (c - s.size))).run Tryd.prog W = .ok (.string ⟨(whole b s.size j).toArray⟩) W) := fun W hW => by
                  have h0 := HRd.out.keep HBel.out HBel.out.size
                  have h := ((h0.keep hW hW.size).cut s.size).take (j + 1 - s.size)
                  rw [bcs_drop, bcs_take] at h
                  have h2 := Rd.conv (c := c - s.size) h
                  rw [show ((b.drop s.size).take (j + 1 - s.size)).length = j + 1 - s.size from HWl.out] at h2
                  exact Lib.hid h2
                by_cases heq : lin s.last (txt b s.size j) = whole b s.size j
                · have hX : (!(ByteArray.mk (lin s.last (txt b s.size j)).toArray).toList == (ByteArray.mk (whole b s.size j).toArray).toList) = false := eqbB (by rw [heq])
                  have HEq := Lib.hid heq
                  have HC : ∀ W, Hid (Calls Tryd.prog 29 #[.int .i64 (s.last : Int), .string ⟨(txt b s.size j).toArray⟩] W fun e w' => e = .returned (.tuple #[.int .i64 (chkR s.last (txt b s.size j)).1, .int .i64 (chkR s.last (txt b s.size j)).2]) ∧ W = w') :=
                    fun W => Lib.hid (Chk_ref (s.last : Int) ⟨(txt b s.size j).toArray⟩ W (by omega) (by omega) (by show (txt b s.size j).length ≤ _; rw [HTl.out]; unfold maxLen; omega))
                  rw [chkR_ok hlast HREC.out] at HC
                  clear heq
                  generalize ByteArray.mk (lin s.last (txt b s.size j)).toArray = X at *
                  generalize ByteArray.mk (whole b s.size j).toArray = Y at *
                  have HNew := Lib.hid (HSt.out.good hcc2 hjl HN.out H10.out HREC.out HEq.out)
                  obtain ⟨tx, htx⟩ : ∃ tx, txt b s.size j = tx := ⟨_, rfl⟩
                  rw [htx] at HNew HC hcv HL' HTl
                  clear htx
                  obtain ⟨ck, hck⟩ : ∃ ck, chk s.last tx = ck := ⟨_, rfl⟩
                  rw [hck] at HC
                  have HCk := Lib.hid hck
                  clear hck
                  go_wp2_with fail
                  refine (HL' wr).out.mono ?_
                  rintro e w2 ⟨rfl, hb2⟩
                  have HI2 := Lib.hid (HI.out.later hb2)
                  have HLog2 := Lib.hid HI2.out.log
                  have HRes2 := Lib.hid HI2.out.res
                  have e2 := HLog2.out.cell 2 (.int .i64 s.size) rfl
                  have e1 := HLog2.out.cell 1 (.int .i64 s.last) rfl
                  have e0 := HLog2.out.cell 0 (.slice A1 s.recs.length c1) rfl
                  have f1 := HLog2.out.frozen 1
                  have hcv2 := (HCv2 w2 hb2).out
                  clear hb2 HCv2 HL' d0 d1 d2 hcv g
                  go_wp2_with fail
                  refine (HC w2).out.mono ?_
                  rintro e w' ⟨rfl, rfl⟩
                  go_upto_region 15 with fail
                  have HI3 := Lib.hid (HI2.out.setL (L := L) 1 (.int .i64 ck) (by have := HR.out; have := HL.out; omega) (by have := HR.out; have := HL.out; omega))
                  have HL3 := Lib.hid (HLog2.out.set 1 (.int .i64 ck))
                  clear e0 e1 e2 f1 hcv2 hX
                  generalize w2.setCell ⟨L, 1, none⟩ (.int .i64 ck) = w3 at *
                  have e0 := HL3.out.cell 0 (.slice A1 s.recs.length c1) rfl
                  go_wp2_with (at_builtin; refine ap_one_at w.heap.size rfl (.tmp 78) (.tmp 80) 22 rfl eStr [.string ⟨tx.toArray⟩] HI3.out.1 HI3.out.2.2.1.size rfl rfl rfl (by simp [Value.oneCell']) (by omega) ?_; intro v4 w4 hr4 hk4 hv4; obtain ⟨g4, cp4, rfl⟩ := row_form hr4; have hL4 := hk4.blk HL3.out (row_ne HL3.out HI3.out.1 (show (9 : TypeId) ≠ 77 by decide)); have k0 := hL4.cell 0 (.slice A1 s.recs.length c1) rfl; have k2 := hL4.cell 2 (.int .i64 s.size) rfl; have z0 := hL4.frozen 0; have z2 := hL4.frozen 2)
                  go_roundw
                  case rel =>
                    refine ⟨s.add tx, .slice (some ⟨g4, 0, none⟩) (s.recs.length + 1) cp4, Lib.hid ?_⟩
                    exact rs_round HNew.out.1 HNew.out.2 HCk.out HI3.out HL3.out hr4 hk4 hL4 (by have := HR.out; have := HL.out; omega) (by have := HR.out; have := HL.out; omega)
                  case measure =>
                    have hz := szAt_eq (rs_round HNew.out.1 HNew.out.2 HCk.out HI3.out HL3.out hr4 hk4 hL4 (by have := HR.out; have := HL.out; omega) (by have := HR.out; have := HL.out; omega)).log
                    have h2 := HNew.out.2
                    have h3 := HSz.out
                    have h4 := HNew.out.1.le
                    omega
                · have hX : (!(ByteArray.mk (lin s.last (txt b s.size j)).toArray).toList == (ByteArray.mk (whole b s.size j).toArray).toList) = true := nebB (fun e => heq (by simpa using congrArg (fun s => s.data.toList) e))
                  have HEq := Lib.hid heq
                  clear heq
                  generalize ByteArray.mk (lin s.last (txt b s.size j)).toArray = X at *
                  generalize ByteArray.mk (whole b s.size j).toArray = Y at *
                  go_wp2_with fail
                  refine (HL' wr).out.mono ?_
                  rintro e w2 ⟨rfl, hb2⟩
                  have HI2 := Lib.hid (HI.out.later hb2)
                  have HLog2 := Lib.hid HI2.out.log
                  have HRes2 := Lib.hid HI2.out.res
                  have e2 := HLog2.out.cell 2 (.int .i64 s.size) rfl
                  have hcv2 := (HCv2 w2 hb2).out
                  clear hb2
                  clear HCv2 HL'
                  go_wp2_with (first | (refine wpList_load_row rfl 77 (.tmp 4) rfl L rfl 77 _ (0, 0) _ HLog2.out rl_und rfl rl_size ?_) | (refine wpList_store_row rfl 77 (.tmp 2) (.tmp 68) rfl R (rl (.slice A1 s.recs.length c1) s.last s.size false) rfl rfl 77 _ HRes2.out rl_size (by kernel_rfl) (by kernel_rfl) ?_))
                  exact bodyPost_ret (res41 (HRes2.out.setRow _) rfl _ rfl) rfl (rs_end HI2.out (by have := HR.out; omega) (HSt.out.bad hcc2 hjl HN.out H10.out (.inr HEq.out)))
          · have hcb : (((b.getD j 0).toNat : Int) != 10) = true := by
              rw [bne_iff_ne]
              intro e
              exact h10 (UInt8.toNat_inj.1 (by show (b.getD j 0).toNat = 10; omega))
            have HN' : Hid (∀ i, s.size ≤ i → i < j + 1 → b.getD i 0 ≠ 10) := Lib.hid (fun i h1 h2 => by
              rcases Nat.lt_or_ge i j with h | h
              · exact HN.out i h1 h
              · obtain rfl : i = j := by omega
                exact h10)
            clear h10
            generalize b.getD j 0 = ch at g hcb
            go_wp2_with fail
            go_roundw
            case rel => exact ⟨j + 1, by omega, by omega, by go_num, HN', trivial⟩
            case measure => simp [intOf]; omega
        · obtain rfl : j = b.length := by omega
          have hje : ((b.length : Int) == (b.length : Int)) = true := beq_self_eq_true _
          go_wp2_with (first | (refine wpList_load_row rfl 77 (.tmp 4) rfl L rfl 77 _ (0, 0) _ HLog.out rl_und rfl rl_size ?_) | (refine wpList_store_row rfl 77 (.tmp 2) (.tmp 34) rfl R (rl (.slice A1 s.recs.length c1) s.last s.size false) rfl rfl 77 _ HRes.out rl_size (by kernel_rfl) (by kernel_rfl) ?_))
          exact bodyPost_ret (res41 (HRes.out.setRow _) rfl _ rfl) rfl (rs_end HI.out (by have := HR.out; omega) (HSt.out.part hlt (fun i h1 h2 => HN.out i h1 h2)))
    · have he : s.size = b.length := by omega
      have HE := Lib.hid he
      have hltb : decide ((s.size : Int) < (b.length : Int)) = false := decide_eq_false (by omega)
      clear he
      go_wp2_with (first | (refine wpList_load_row rfl 77 (.tmp 4) rfl L rfl 77 _ (0, 0) _ HLog.out rl_und rfl rl_size ?_) | (refine wpList_store_row rfl 77 (.tmp 2) (.tmp 86) rfl R (rl (.slice A1 s.recs.length c1) s.last s.size false) rfl rfl 77 _ HRes.out rl_size (by kernel_rfl) (by kernel_rfl) ?_))
      exact bodyPost_ret (res41 (HRes.out.setRow _) rfl _ rfl) rfl (rs_end HI.out (by have := HR.out; omega) (HSt.out.done HE.out))
end Go.Proofs.YtandanbojfdfjaaDoor
