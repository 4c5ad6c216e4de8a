import Derived.Test.YtandanbojfdfjaaDoorGoo2
import Derived.Test.YtandanbojfdfjaaDoorMem
import Derived.Deep.Cut
import Derived.Deep.RegionWith
namespace Go.Proofs.YtandanbojfdfjaaDoor
open Go.ChangeShapes Go.WideShapes Go.ChangeAt Go.RowKit

theorem eStr : Elem Tryd.prog 22 9 (.string ⟨#[]⟩) 1 16 := ⟨by kernel_rfl, by kernel_rfl, rfl, by omega, by omega⟩

/-- a log in memory -/
abbrev lg (dk v : Value) (last size : Nat) (cl : Bool) : Array Value := #[dk, v, .int .i64 last, .int .i64 size, .bool cl]
abbrev scs (rs : List Bs) : List Value := rs.map fun l => .string ⟨l.toArray⟩

theorem Tb.kp {w w' : World} {S : Nat → Prop} (h : Tb w) (hk : Kp w w' S) (hS : ∀ k, S k → 2 ≤ k) : Tb w' := h.below (hk.below2 h.lt hS) (by omega)

set_option maxHeartbeats 1000000 in
theorem add_any (base L : Nat) (dk v : Value) (rs : List Bs) (last size : Nat) (cl : Bool) (t : ByteArray) (w : World) (hL : Blk w L 68 (lg dk v last size cl)) (hr : w.ownsRow base 9 1 v rs.length (scs rs)) (hbase : base ≤ w.heap.size)
    (hb2 : 2 ≤ base) (hL2 : 2 ≤ L) (hT : Tb w) (hx : last < 9973) (hs : t.size ≤ 1000000) (hsz : size ≤ 1000000000) (hn : rs.length ≤ 1000000000) :
    Calls Tryd.prog 38 #[.pointer (some ⟨L, 0, none⟩), .string t] w fun e w' => (∃ u, e = .returned u) ∧ ∃ v',
      Blk w' L 68 (lg dk v' (chk last t.data.toList) (size + t.size + 6) cl) ∧ w'.ownsRow base 9 1 v' (rs.length + 1) (scs (rs ++ [t.data.toList])) ∧
      Kp w w' (fun k => k = L ∨ v.ownBlock = some k) ∧ (∀ k, v'.ownBlock = some k → v.ownBlock = some k ∨ w.heap.size ≤ k) := by
  have c1 := hL.cell 1 v rfl
  have f1 := hL.frozen 1
  have HL := Lib.hid hL
  have HR := Lib.hid hr
  have hne := row_ne hL hr (show (9 : TypeId) ≠ 68 by decide)
  have HT := Lib.hid hT
  have hll := lin_len last t.data.toList
  rw [len_toList] at hll
  have HLn := fun W h => Lib.hid (line_any last t W hx hs h)
  have HC := fun W => Lib.hid (check_any last t W hx hs)
  generalize lin last t.data.toList = li at *
  generalize chk last t.data.toList = ck at *
  clear hL hr hT
  go_enter Tryd.func38, Tryd.ntmps38
  go_upto_region 1 with (at_builtin; refine ap_one_at base rfl (.tmp 8) (.tmp 10) 22 rfl eStr [.string t] HR.out hbase rfl rfl rfl (by simp [Value.oneCell']) (by omega) ?_; intro v1 w1 hr1 hk1 hv1; obtain ⟨g1, cp1, rfl⟩ := row_form hr1; have hL1 := hk1.blk HL.out hne; have c1' := hL1.cell 1 v rfl; have f1' := hL1.frozen 1)
  have hL2 := hL1.set 1 (.slice (some ⟨g1, 0, none⟩) (rs.length + 1) cp1)
  have hk2 : Kp w (w1.setCell ⟨L, 1, none⟩ (.slice (some ⟨g1, 0, none⟩) (rs.length + 1) cp1)) (fun k => k = L ∨ v.ownBlock = some k) := (hk1.mono fun k _ h => .inr h).trans ((Kp.set _ L 1 _).mono fun k _ h => .inl h)
  have hr2 := (Kp.set w1 L 1 (.slice (some ⟨g1, 0, none⟩) (rs.length + 1) cp1)).row hr1 (fun k hk e => row_ne hL1 hr1 (show (9 : TypeId) ≠ 68 by decide) (e ▸ hk))
  have hT2 : Tb (w1.setCell ⟨L, 1, none⟩ (.slice (some ⟨g1, 0, none⟩) (rs.length + 1) cp1)) := HT.out.kp hk2 (fun k hk => hk.elim (fun e => by omega) (fun e => Nat.le_trans hb2 (row_ge HR.out k e)))
  generalize w1.setCell ⟨L, 1, none⟩ (.slice (some ⟨g1, 0, none⟩) (rs.length + 1) cp1) = w2 at *
  clear hk1 hr1 hL1 c1' f1' c1 f1
  have c2 := hL2.cell 2 (.int .i64 last) rfl
  have c3 := hL2.cell 3 (.int .i64 size) rfl
  have f3 := hL2.frozen 3
  have HL2 := Lib.hid hL2
  have HR2 := Lib.hid hr2
  have hLlt := hL2.lt
  clear hL2 hr2
  have HL0 := HLn w2.drew (hT2.below (B := w2.heap.size) (Below.refl _ _).drew hT2.lt)
  clear HLn
  have hw : IntKind.i64.wrap ((size : Int) + ((t.size : Int) + 6)) = (size : Int) + ((t.size : Int) + 6) := IntWalk.i64_in _ (by omega)
  go_region_with (go_at_call 35; refine HL0.out.mono ?_; rintro e w' ⟨rfl, hb⟩; have d2 := (bcell hb L 2 hLlt).trans c2; have d3 := (bcell hb L 3 hLlt).trans c3; have g3 := (bfrozen hb L 3 hLlt).trans f3)
  all_goals
    have hb' : Below w2.heap.size w2 w' := ((Below.refl _ _).drew).trans hb
    have hLw : Blk w' L 68 (lg dk (.slice (some ⟨g1, 0, none⟩) (rs.length + 1) cp1) last size cl) := (hb'.block L hLlt).trans HL2.out
    have hRw := ownsRow_later HR2.out hb'
    have hL3 := hLw.set 3 (.int .i64 ((size : Int) + ((t.size : Int) + 6)))
    have hk3 := hk2.trans ((Kp.of_below hb' (fun k => k = L ∨ v.ownBlock = some k)).trans ((Kp.set w' L 3 (.int .i64 ((size : Int) + ((t.size : Int) + 6)))).mono fun k _ h => .inl h))
    have hR3 := (Kp.set w' L 3 (.int .i64 ((size : Int) + ((t.size : Int) + 6)))).row hRw (fun k hk e => row_ne hLw hRw (show (9 : TypeId) ≠ 68 by decide) (e ▸ hk))
    clear d2 d3 g3 hLw hRw hb hb' hk2 c2 c3 f3
    generalize w'.setCell ⟨L, 3, none⟩ (.int .i64 ((size : Int) + ((t.size : Int) + 6))) = w3 at *
    have e2 := hL3.cell 2 (.int .i64 last) rfl
    have h2 := hL3.frozen 2
    have HL3 := Lib.hid hL3
    have HR3 := Lib.hid hR3
    clear hL3 hR3
    go_wp2_with fail
    refine (HC w3).out.mono ?_
    rintro e w4 ⟨rfl, rfl⟩
    go_wp2_with fail
    go_end0
    refine ⟨⟨_, rfl⟩, .slice (some ⟨g1, 0, none⟩) (rs.length + 1) cp1, ?_, ?_, hk3.trans ((Kp.set w3 L 2 _).mono fun k _ h => .inl h), hv1⟩
    · have := HL3.out.set 2 (.int .i64 ck)
      have e : ((size + t.size + 6 : Nat) : Int) = (size : Int) + ((t.size : Int) + 6) := by omega
      unfold lg
      rw [e]
      exact this
    · have := (Kp.set w3 L 2 (.int .i64 ck)).row HR3.out (fun k hk e => row_ne HL3.out HR3.out (show (9 : TypeId) ≠ 68 by decide) (e ▸ hk))
      simpa [scs] using this
end Go.Proofs.YtandanbojfdfjaaDoor
