import Derived.Test.YtandanbojfdfjaaDoorAdd
import Derived.Test.YtandanbojfdfjaaDoorRange
import Derived.Lib.SlBytesRow
import Derived.RangeFuncNested
import Derived.Shelf.Abstract
import Derived.Shelf.RegionOpen
import Derived.OwnWalkIn
import Derived.TacticsInMore
import Derived.LoopNIn
import Derived.LoopIn
namespace Go.Proofs.YtandanbojfdfjaaDoor
open Go.ChangeShapes Go.WideShapes Go.ChangeAt Go.RowKit Go.Shelf
attribute [local go_sem] Oper.semAt_some

/-! the lines of some bytes -/
def cutN (l : Bs) : Nat := if Lib.indexByte l 10 = -1 then l.length else (Lib.indexByte l 10).toNat + 1
theorem indexByte_bd (l : Bs) (c : UInt8) : -1 ≤ Lib.indexByte l c ∧ Lib.indexByte l c < l.length := by
  induction l with
  | nil => simp [Lib.indexByte]
  | cons b l ih =>
    unfold Lib.indexByte
    split
    · simp
    · split
      · rw [List.length_cons]; omega
      · rw [List.length_cons]
        have : ¬ Lib.indexByte l c = -1 := by rename_i h; simpa using h
        omega
theorem cutN_bd {l : Bs} (h : l ≠ []) : 0 < cutN l ∧ cutN l ≤ l.length := by
  have h1 := indexByte_bd l 10
  have h2 := List.length_pos_iff.2 h
  unfold cutN
  split <;> omega
def lns (l : Bs) : List Bs := if h : l = [] then [] else l.take (cutN l) :: lns (l.drop (cutN l))
termination_by l.length
decreasing_by
  have := cutN_bd h
  simp; omega
theorem lns_nil : lns [] = [] := by rw [lns]; simp
theorem lns_cons {l : Bs} (h : l ≠ []) : lns l = l.take (cutN l) :: lns (l.drop (cutN l)) := by rw [lns]; simp [h]

abbrev bcs (l : Bs) : List Value := l.map fun c => .int .u8 (c.toNat : Int)
theorem bcs_take (l : Bs) (k : Nat) : (bcs l).take k = bcs (l.take k) := by simp [bcs]
theorem bcs_drop (l : Bs) (k : Nat) : (bcs l).drop k = bcs (l.drop k) := by simp [bcs]
theorem rd_bytes {w : World} {n₀ b o : Nat} {l : Bs} (h : Rd w n₀ (some ⟨b, o, none⟩) (bcs l)) : Lib.Bytes w b o ⟨l.toArray⟩ := by
  intro i hi
  have hi' : i < l.length := hi
  obtain ⟨b', o', e, _, hc⟩ := h (by simp; omega)
  simp at e
  obtain ⟨rfl, rfl⟩ := e
  refine hc i _ ?_
  simp [hi']
  rfl

/-- between two rounds of the iterator: the bytes that are left -/
def Left (all : Bs) (Bc n₀ : Nat) (J : List Bs → World → Prop) (wr : World) : Prop :=
  ∃ (pre : List Bs) (rest : Bs) (A : Option Addr) (c : Nat), lns all = pre ++ lns rest ∧ rest.length ≤ 2000000 ∧ rest.length ≤ c ∧ Blk wr Bc 26 #[.slice A rest.length c] ∧ Rd wr n₀ A (bcs rest) ∧ J pre wr
def lenAt (wr : World) (Bc : Nat) : Nat := match wr.cell? ⟨Bc, 0, none⟩ with | some (.slice _ k _) => k | _ => 0
theorem lenAt_eq {wr : World} {Bc : Nat} {A : Option Addr} {k c : Nat} (h : Blk wr Bc 26 #[.slice A k c]) : lenAt wr Bc = k := by
  unfold lenAt
  rw [h.cell 0 (.slice A k c) rfl]

theorem lines_next {all : Bs} {Bc n₀ : Nat} {J : List Bs → World → Prop} (hBc : n₀ ≤ Bc) (hAb : ∀ pre A B, J pre A → Kp A B (fun k => k = Bc) → J pre B) {pre : List Bs} {x rest rest' : Bs} {b o c m : Nat} {wr W3 : World}
    (hx : lns all = pre ++ lns rest) (hlc : lns rest = x :: lns rest') (hln : rest.length ≤ 2000000) (hcp : rest.length ≤ c) (hm0 : 0 < m) (hm1 : m ≤ rest.length) (hdl : rest'.length = rest.length - m)
    (hb : Blk wr Bc 26 #[.slice (some ⟨b, o, none⟩) rest.length c]) (hrdr : Rd wr n₀ (some ⟨b, o + m, none⟩) (bcs rest')) (hJ : J (pre ++ [x]) W3) (hbe : Below n₀ wr W3) (hke : W3.heap[Bc]? = wr.heap[Bc]?)
    (A' : Option Addr) (hA : A' = if c = m then some ⟨b, o, none⟩ else some ⟨b, o + m, none⟩) :
    Left all Bc n₀ J (W3.setCell ⟨Bc, 0, none⟩ (.slice A' (rest.length - m) (c - m))) ∧ lenAt (W3.setCell ⟨Bc, 0, none⟩ (.slice A' (rest.length - m) (c - m))) Bc < lenAt wr Bc := by
  have hb3 : Blk W3 Bc 26 #[.slice (some ⟨b, o, none⟩) rest.length c] := hke.trans hb
  have hs := hb3.set 0 (.slice A' (rest.length - m) (c - m))
  have hs' : Blk (W3.setCell ⟨Bc, 0, none⟩ (.slice A' (rest.length - m) (c - m))) Bc 26 #[.slice A' (rest.length - m) (c - m)] := hs
  refine ⟨⟨pre ++ [x], rest', A', c - m, by rw [hx, hlc]; simp, by omega, by omega, by rw [hdl]; exact hs', ?_, hAb _ _ _ hJ (Kp.set W3 Bc 0 _)⟩, by rw [lenAt_eq hs', lenAt_eq hb]; omega⟩
  have hk : Below n₀ wr (W3.setCell ⟨Bc, 0, none⟩ (.slice A' (rest.length - m) (c - m))) := hbe.setCell (p := ⟨Bc, 0, none⟩) hBc _
  by_cases hc : c = m
  · have : rest' = [] := List.eq_nil_of_length_eq_zero (by omega)
    subst this
    exact Rd.nil
  · rw [if_neg hc] at hA
    subst hA
    exact hrdr.keep hk (Nat.le_refl _)

set_option maxRecDepth 100000 in
set_option maxHeartbeats 2000000 in
theorem lines1_in (n Bc n₀ : Nat) (hBc : n₀ ≤ Bc) (all : Bs) (hlen : all.length ≤ 2000000) (A : Option Addr) (c : Nat) (hcap : all.length ≤ c) :
    SeqSt Fence.wide n Tryd.prog 68 #[.pointer (some ⟨Bc, 0, none⟩)] (fun x : Bs => #[.string ⟨x.toArray⟩]) (fun A B => Kp A B (fun k => k = Bc)) (fun W W' => Below n₀ W W' ∧ W'.heap[Bc]? = W.heap[Bc]?) (fun pre x => (pre ++ [x]) <+: lns all)
      (fun xs => xs = lns all) (fun pre => pre <+: lns all) (fun W => Blk W Bc 26 #[.slice A all.length c] ∧ Rd W n₀ A (bcs all)) := by
  intro l J Jx W hC hAb hY h0
  refine callsIn_of_wp Tryd.func68 rfl trivial ?_ rfl
  simp only [Tryd.ntmps68, List.size_toArray, List.length_cons, List.length_nil, Nat.reduceAdd, Nat.reduceSub, Array.replicate_succ, Array.replicate_zero, List.push_toArray, List.append_toArray, List.nil_append, List.cons_append]
  gi_wp2
  gi_loopw [3] (fun _ wr => Left all Bc n₀ J wr) (fun _ wr => lenAt wr Bc)
  case atStart => exact ⟨[], all, A, c, rfl, hlen, hcap, hC.1, hC.2, h0⟩
  case round =>
    obtain ⟨pre, rest, A, c, hx, hln, hcp, hb, hrd, hJ⟩ := hrel
    have hcl := hb.cell 0 _ rfl
    have hfr := hb.frozen 0
    by_cases h0 : rest = []
    · subst h0
      gi_wp2
      go_end0
      exact ⟨⟨_, rfl⟩, .inl ⟨lns all, rfl, by rw [hx, lns_nil, List.append_nil]; exact hJ⟩⟩
    · have hpos := List.length_pos_iff.2 h0
      obtain ⟨b, o, rfl, hbn, hcells⟩ := hrd (by simpa using hpos)
      have HI : Hid (Calls Tryd.prog 69 #[.slice (some ⟨b, o, none⟩) rest.length c, .int .u8 10] wr fun e w' => e = .returned (.int .i64 (Lib.indexByte rest 10)) ∧ w' = wr) := Lib.hid (Tryd.bytes_IndexByte_bytes b o c ⟨rest.toArray⟩ 10 wr (rd_bytes hrd))
      obtain ⟨hm0, hm1⟩ := cutN_bd h0
      have hlc := lns_cons h0
      have hcut : cutN rest = if Lib.indexByte rest 10 = -1 then rest.length else (Lib.indexByte rest 10).toNat + 1 := rfl
      have hib := indexByte_bd rest 10
      have hrt := hrd.take (cutN rest)
      rw [bcs_take] at hrt
      have hrdr := hrd.cut (cutN rest)
      rw [bcs_drop] at hrdr
      have hcv := Lib.run_convert_whole (P := Tryd.prog) wr 26 5 9 (by kernel_rfl) (by kernel_rfl) (by kernel_rfl) b o ⟨(rest.take (cutN rest)).toArray⟩ (rd_bytes hrt) c
      obtain ⟨fn, tmps, assign, body, hy, hR⟩ := hY pre (rest.take (cutN rest)) wr hJ ⟨lns (rest.drop (cutN rest)), by rw [hx, lns_cons h0]; simp⟩
      have hsz : (⟨(rest.take (cutN rest)).toArray⟩ : ByteArray).size = cutN rest := by
        show (rest.take (cutN rest)).length = _
        rw [List.length_take]; omega
      rw [hsz] at hcv
      have hdl : (rest.drop (cutN rest)).length = rest.length - cutN rest := List.length_drop
      generalize Lib.indexByte rest 10 = ix at *
      generalize hcn : cutN rest = m at *
      generalize rest.take m = x at *
      generalize rest.drop m = rest' at *
      have HC := Lib.hid hcut
      clear hcut hcells hrd hrt
      have fin := fun W3 h1 h2 h3 A' h4 => Lib.hid (lines_next (all := all) (J := J) (W3 := W3) hBc hAb hx hlc hln hcp hm0 hm1 hdl hb hrdr h1 h2 h3 A' h4)
      by_cases hi : ix = -1
      · subst hi
        obtain rfl : m = rest.length := by rw [HC.out]; simp
        gi_wp2_with fail
        refine ⟨trivial, fun h => (by cases h), (callsIn_wide.2 HI.out).mono ?_⟩
        rintro e w' ⟨rfl, rfl⟩
        gi_wp2_with fail
        refine ⟨fun h => (by cases h), hR.mono ?_⟩
        rintro e W3 (⟨rfl, hJ3, hbe, hke⟩ | ⟨rfl, hJx⟩)
        · have hb3 := hke.trans hb
          have hcl3 := Blk.cell hb3 0 _ rfl
          have hfr3 := Blk.frozen hb3 0
          have fin' := fin W3 hJ3 hbe hke _ rfl
          rw [Nat.sub_self] at fin'
          clear fin
          gi_wp2_with fail
          go_roundw
          case rel => exact fin'.out.1
          case measure => exact fin'.out.2
        · gi_wp2_with fail
          refine bodyPost_ret (results_none rfl _ _ _) rfl ?_
          exact ⟨⟨_, rfl⟩, .inr ⟨pre ++ [x], ⟨lns rest', by rw [hx, hlc]; simp⟩, hJx⟩⟩
      · obtain ⟨i, rfl⟩ := Int.eq_ofNat_of_zero_le (show 0 ≤ ix by omega)
        obtain rfl : m = i + 1 := by rw [HC.out, if_neg hi]; simp
        gi_wp2_with fail
        refine ⟨trivial, fun h => (by cases h), (callsIn_wide.2 HI.out).mono ?_⟩
        rintro e w' ⟨rfl, rfl⟩
        gi_wp2_with fail
        refine ⟨fun h => (by cases h), hR.mono ?_⟩
        rintro e W3 (⟨rfl, hJ3, hbe, hke⟩ | ⟨rfl, hJx⟩)
        · have hb3 := hke.trans hb
          have hcl3 := Blk.cell hb3 0 _ rfl
          have hfr3 := Blk.frozen hb3 0
          have fin' := fin W3 hJ3 hbe hke _ rfl
          clear fin
          gi_wp2_with fail
          go_roundw
          case rel => exact fin'.out.1
          case measure => exact fin'.out.2
        · gi_wp2_with fail
          refine bodyPost_ret (results_none rfl _ _ _) rfl ?_
          exact ⟨⟨_, rfl⟩, .inr ⟨pre ++ [x], ⟨lns rest', by rw [hx, hlc]; simp⟩, hJx⟩⟩
end Go.Proofs.YtandanbojfdfjaaDoor
