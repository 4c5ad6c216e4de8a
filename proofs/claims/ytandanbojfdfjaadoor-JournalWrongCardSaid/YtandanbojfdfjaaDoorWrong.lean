import Derived.Test.YtandanbojfdfjaaDoorWr1
import Derived.Deep.CutBlock
import Derived.Great.BuildSlice
import Derived.Deep.DeepCutAuto
namespace Go.Proofs.YtandanbojfdfjaaDoor
open Go.ChangeShapes Go.WideShapes Go.ChangeAt Go.RowKit

theorem wr_open {l : List Bs} (h : Few l) : openR (logB 1 l ++ [48]) 0 = (none, 420, logB 1 l ++ [48], 0) ∧ repairR (logB 1 l ++ [48]) 0 = (0, 420, logB 1 l ++ [48], 0) := by
  have hs := scan_part l (y := [48]) h.okr (by decide) (by decide)
  have hl := h.log
  have hlen : (logB 1 l ++ [48]).length = (logB 1 l).length + 1 := by simp
  constructor
  · unfold openR
    rw [if_neg (by omega), hs]
    simp [cutR]
  · unfold repairR
    rw [if_neg (by omega), hs]
    simp [cutR]

set_option maxRecDepth 1000000 in
set_option maxHeartbeats 8000000 in
theorem jwrong_any (A : Option Addr) (c n0 at_ : Nat) (x : Int) (xs : List Bs) (w : World) (hr : Rd w w.heap.size A (scs xs)) (hn : xs.length = n0) (hc : n0 ≤ c) (hm : n0 ≤ maxLen) (hs : ∀ x ∈ xs, x.length ≤ maxLen) (hl : -(2^63) ≤ x) (hh : x < 2^63) (ha : at_ < 256) (hT : Tb w) :
    Calls Tryd.prog 11 #[.slice A n0 c, .int .i64 x, .int .u8 at_] w fun e w' => e = .returned (.bool true) ∧ Below w.heap.size w w' := by
  have HT := Lib.hid hT
  have HX := Lib.hid (texts_any A c n0 xs w hr hn hc hm hs)
  have HF := Lib.hid (few_out xs)
  clear hr hn hc hm hs hT
  generalize outT xs = l at *
  have HAw := fun (W : World) (b : Below w.heap.size w W) => Lib.hid (awake_any W (HT.out.below b HT.out.lt))
  obtain ⟨S, hS⟩ : ∃ S, (⟨#[97, 32, 114, 101, 99, 111, 114, 100]⟩ : ByteArray) = S := ⟨_, rfl⟩
  have hSz : S.size = 8 := by rw [← hS]; rfl
  have HSr : Hid (recB S.data.toList = true) := Lib.hid (by rw [← hS]; decide)
  have HS := Lib.hid hS
  have HSz := Lib.hid hSz
  clear hS hSz
  obtain ⟨i, hii⟩ : ∃ i, at_ % 9 = i := ⟨_, rfl⟩
  have hi8 : i ≤ 8 := by omega
  have hni : ((at_ : Int) % 9) = (i : Int) := by subst hii; simp
  clear hii
  obtain ⟨m1, hm1⟩ : ∃ m1 : Int, min x (-1) = m1 := ⟨_, rfl⟩
  obtain ⟨m2, hm2⟩ : ∃ m2 : Int, max x 9973 = m2 := ⟨_, rfl⟩
  have h1 : m1 < 0 ∧ -(2^63) ≤ m1 := by omega
  have h2 : 9973 ≤ m2 ∧ m2 < 2^63 := by omega
  have HM1 := Lib.hid hm1
  have HM2 := Lib.hid hm2
  have HW1 := Lib.hid h1
  have HW2 := Lib.hid h2
  clear hm1 hm2 h1 h2 hl hh
  go_enter Tryd.func11, Tryd.ntmps11
  go_wp2_with fail
  refine HX.out.mono ?_
  rintro e w1 ⟨v, rfl, hrow, hb1⟩
  obtain ⟨A1, c1, rfl, hc1, hrd1, _⟩ := row_rd hrow
  have HB1 := Lib.hid hb1
  have HR1 := Lib.hid hrd1
  have hz : l.length ≤ 20 := HF.out.num
  clear HX hrow hb1 hrd1
  go_wp2_with fail
  refine (written_any A1 c1 l.length l w1 HR1.out rfl hc1 HF.out (HT.out.below HB1.out HT.out.lt)).mono ?_
  rintro e w2 ⟨vb, u, rfl, hby, hen, hb2⟩
  obtain ⟨A2, c2, rfl, hr2, hc2, _⟩ := hby.form
  have HB2 := Lib.hid (HB1.out.trans (hb2.mono HB1.out.size))
  have HR2 := Lib.hid hr2
  have HRl := Lib.hid (HR1.out.keep hb2 hb2.size)
  clear hby hen hb2 hr2 HR1 HB1
  have hlog := HF.out.log
  obtain ⟨N, hN⟩ : ∃ N, (logB 1 l).length = N := ⟨_, rfl⟩
  have HNN := Lib.hid hN
  rw [hN] at hc2 hlog ⊢
  clear hN
  obtain ⟨M, hM⟩ : ∃ M, l.length = M := ⟨_, rfl⟩
  have HM := Lib.hid hM
  rw [hM] at hc1 hz ⊢
  clear hM
  go_wp2_with (first | (at_builtin; refine ap_many rfl (.tmp 40) (.tmp 41) 26 rfl eByte A2 N c2 (bcs (logB 1 l)) (Own.built w2 5 0 [] (Below.refl _ _) rfl (by omega)) rfl rfl (by rw [Nat.mul_one, List.length_map]; exact HNN.out) (HR2.out.alloc _) (oneCells_bcs _) (by omega) ?_; intro v3 w3 own3 hsz3; rw [Nat.zero_add, List.nil_append] at own3; obtain ⟨a3, c3, rfl⟩ := row_slice own3.row) | (refine wpList_buildTo rfl 28 #[(0, .tmp 42)] rfl (some 43) rfl (dsk (.slice a3 N c3) 0) (by kernel_rfl) ?_))
  have HO3 := Lib.hid own3
  have hD : DiskAt (w3.alloc (.cells (dsk (.slice a3 N c3) 0) 28)) w3.heap.size (logB 1 l) 0 := ⟨_, Blk.new _ _ _, (By.row (base := w2.heap.size) (by rw [HNN.out]; exact own3.row)).below (below_alloc _ _)⟩
  have hb3 : Below w2.heap.size w2 (w3.alloc (.cells (dsk (.slice a3 N c3) 0) 28)) := own3.bel.trans ((below_alloc _ _).mono own3.bel.size)
  have hD3 : w2.heap.size ≤ w3.heap.size := own3.bel.size
  have HT2 := Lib.hid (HT.out.below HB2.out HT.out.lt)
  have HOp := Lib.hid (open_any w3.heap.size (logB 1 l) 0 _ hD (by rw [HNN.out]; omega) (by omega) (by omega) (HT2.out.below hb3 HT2.out.lt))
  rw [open_whole HF.out 0] at HOp
  have HB3 := Lib.hid hb3
  have HD3 := Lib.hid hD3
  clear own3 hD hb3 hD3 hsz3
  go_wp2_with fail
  refine HOp.out.mono ?_
  intro e w4 hO
  obtain ⟨L, rfl, hsys, hL⟩ := Sys.of_open HB3.out HD3.out hO
  have HSy4 := Lib.hid hsys
  clear hO hsys HOp
  generalize (w3.alloc (.cells (dsk (.slice a3 N c3) 0) 28)).heap.size = base at *
  generalize w3.heap.size = D at *
  have HRs : Hid ((St.zero.adds l).last < 9973 ∧ (St.zero.adds l).size ≤ 2000 ∧ (St.zero.adds l).recs = l ∧ l.length = M) := Lib.hid ⟨adds_last l .zero (by decide), by
    rw [adds_size]
    have e1 : St.zero.last = 1 := rfl
    have e2 : St.zero.size = 0 := rfl
    rw [e1, e2, HNN.out]
    omega, by rw [adds_recs]; rfl, HM.out⟩
  generalize St.zero.adds l = s at *
  clear hL
  go_upto_region 10 with fail
  rw [HS.out]
  have hS8 := HSz.out
  go_upto_region 11 with fail
  rw [hni]
  clear hni hS8
  refine wr_11 _ _ _ w4 S i HSz.out hi8 _ _ _ _ _ _ _ _ _ _ _ _ _ _ _ _ _ _ _ _ _ _ _ _ _ _ _ _ _ _ _ _ _ _ _ _ _ _ _ _ _ _ _ _ _ _ _ _ _ _ _ _ _ _ _ _ _ _ _ _ _ _ _ _ _ _ _ _ _ _ _ _ _ _ _ _ _ _ _ _ _ _ _ _ _ _ _ _ _ _ _ _ _ _ _ _ _ _ _ _ _ _ _ _ _ _ _ _ _ _ _ _ _ _ _ _ _ _ _ _ _ _ _ _ _ _ _ _ _ _ _ _ _ _ _ _ _ _ _ _ _ _ _ _ _ _ _ _ _ _ _ _ _ _ _ _ _ _ _ _ _ _ _ _ _ _ _ _ _ _ _ _ _ _ _ _ _ _ _ _ _ _ _ _ _ _ _ _ _ _ _ _ _ _ _ _ _ _ _ _ _ _ _ _ _ _ _ _ _ _ _ _ _ _ _ _ _ _ _ _ _ _ _ _ _ _ _ _ _ _ ?_
  intro a62 a63 a64 a65 a66 a67 a68 a69 a70 a71 a72 a73 a74 a75 a76 a77 a78 a79 a80 a81 a82 a83 a84 a85 a86 a87 a88 a89 a90 a91 a92 a93 a94 a95 g wx hbx
  obtain ⟨hbx, f, hf⟩ := hbx
  have HBx := Lib.hid hbx
  have hg := cell_lt (hf 0 (by omega)).1
  have HFx := Lib.hid hf
  have HSyx := Lib.hid (HSy4.out.below HBx.out)
  have HTx := Lib.hid (HT2.out.below HSyx.out.bel HT2.out.lt)
  clear hbx hf
  go_upto_block 0 with fail
  refine wr_L1 _ _ w2 wx base L D g (logB 1 l) 0 s f hg HFx HSyx HTx _ _ _ _ _ _ _ _ _ _ _ _ _ _ _ _ _ _ _ _ _ _ _ _ _ _ _ _ _ _ _ _ _ _ _ _ _ _ _ _ _ _ _ _ _ _ _ _ _ _ _ _ _ _ _ _ _ _ _ _ _ _ _ _ _ _ _ _ _ _ _ _ _ _ _ _ _ _ _ _ _ _ _ _ _ _ _ _ _ _ _ _ _ _ _ _ _ _ _ _ _ _ _ _ _ _ _ _ _ _ _ _ _ _ _ _ _ _ _ _ _ _ _ _ _ _ _ _ _ _ _ _ _ _ _ _ _ _ _ _ _ _ _ _ _ _ _ _ _ _ _ _ _ _ _ _ _ _ _ _ _ _ _ _ _ _ _ _ _ _ _ _ _ _ _ _ _ _ _ _ _ _ _ _ _ _ _ _ _ _ _ _ _ _ _ _ _ _ _ _ _ _ _ _ _ _ _ _ _ _ _ _ _ _ _ _ _ _ _ _ _ _ _ _ _ _ _ _ ?_
  intro b6 b16 b17 b18 b19 b20 b98 b99 b100 b101 b102 b103 b104 b105 b106 b107 b108 b109 b110 b111 b112 b113 b114 b115 b116 b117 b118 b119 b120 b121 b122 b123 b124 b125 b126 b127 b128 wy HBy
  have HSyy := Lib.hid (HSyx.out.below HBy.out)
  have HTy := Lib.hid (HT2.out.below HSyy.out.bel HT2.out.lt)
  clear HFx HSyx HTx HSy4 HBx
  go_upto_block 2 with (first | ((with_reducible refine min_step _ _ .i64 x (-1) m1 ?_ ?_ ?_ ?_); (exact rfl); (exact rfl); (exact HM1.out)) | ((with_reducible refine max_step _ _ .i64 x 9973 m2 ?_ ?_ ?_ ?_); (exact rfl); (exact rfl); (exact HM2.out)))
  have hba := below_alloc wy (.cells #[.int .i64 m1, .int .i64 m2] 3)
  have hcc := Blk.new wy #[.int .i64 m1, .int .i64 m2] 3
  have hgg : wy.heap.size < (wy.alloc (.cells #[.int .i64 m1, .int .i64 m2] 3)).heap.size := hcc.lt
  have HFy : Hid (∀ j, j < 2 → (wy.alloc (.cells #[.int .i64 m1, .int .i64 m2] 3)).cell? ⟨wy.heap.size, j, none⟩ = some (.int .i64 ((fun j : Nat => if j = 0 then m1 else m2) j)) ∧ ((fun j : Nat => if j = 0 then m1 else m2) j < 0 ∨ 9973 ≤ (fun j : Nat => if j = 0 then m1 else m2) j) ∧ -(2^63) ≤ (fun j : Nat => if j = 0 then m1 else m2) j ∧ (fun j : Nat => if j = 0 then m1 else m2) j < 2^63) := Lib.hid (fun j hj => by
    have h1 := HW1.out
    have h2 := HW2.out
    match j, hj with
    | 0, _ => exact ⟨hcc.cell 0 _ rfl, .inl h1.1, h1.2, by show m1 < _; omega⟩
    | 1, _ => exact ⟨hcc.cell 1 _ rfl, .inr h2.1, by show _ ≤ m2; omega, h2.2⟩)
  have HTa := Lib.hid (HTy.out.below hba HTy.out.lt)
  have HSya := Lib.hid (HSyy.out.below hba)
  clear hba hcc HSyy HTy
  generalize wy.alloc (.cells #[.int .i64 m1, .int .i64 m2] 3) = wa at *
  refine wr_L2 _ _ wa wy.heap.size S _ hgg HFy HTa _ _ _ _ _ _ _ _ _ _ _ _ _ _ _ _ _ _ _ _ _ _ _ _ _ _ _ _ _ _ _ _ _ _ _ _ _ _ _ _ _ _ _ _ _ _ _ _ _ _ _ _ _ _ _ _ _ _ _ _ _ _ _ _ _ _ _ _ _ _ _ _ _ _ _ _ _ _ _ _ _ _ _ _ _ _ _ _ _ _ _ _ _ _ _ _ _ _ _ _ _ _ _ _ _ _ _ _ _ _ _ _ _ _ _ _ _ _ _ _ _ _ _ _ _ _ _ _ _ _ _ _ _ _ _ _ _ _ _ _ _ _ _ _ _ _ _ _ _ _ _ _ _ _ _ _ _ _ _ _ _ _ _ _ _ _ _ _ _ _ _ _ _ _ _ _ _ _ _ _ _ _ _ _ _ _ _ _ _ _ _ _ _ _ _ _ _ _ _ _ _ _ _ _ _ _ _ _ _ _ _ _ _ _ _ _ _ _ _ _ _ _ _ _ _ _ _ _ ?_
  intro c6 c22 c23 c24 c25 c26 c135 c136 c137 c138 c139 c140 c141 c142 c143 c144 c145 c146 c147 c148 c149 c150 c151 c152 c153 c154 c155 c156 c157 wb HBb
  have HSyb := Lib.hid (HSya.out.below HBb.out)
  have HCv : Hid (∀ W, Below w2.heap.size w2 W → (convert 26 9 (.slice A2 N c2)).run Tryd.prog W = .ok (.string ⟨(logB 1 l).toArray⟩) W) := Lib.hid (fun W hW => Rd.cv HR2.out HNN.out hW)
  have hbl2 : (logB 1 l).length ≤ 1320 := by rw [HNN.out]; exact hlog
  clear HFy HTa HSya hgg
  go_upto_region 27 with fail
  refine wr_27 _ _ _ w2 wb l (logB 1 l) s _ S A1 A2 base L D c1 c2 M N HSr.out hbl2 hz (Lib.hid rfl) HRs HSyb HT2 HRl HCv _ _ _ _ _ _ _ _ _ _ _ _ _ _ _ _ _ _ _ _ _ _ _ _ _ _ _ _ _ _ _ _ _ _ _ _ _ _ _ _ _ _ _ _ _ _ _ _ _ _ _ _ _ _ _ _ _ _ _ _ _ _ _ _ _ _ _ _ _ _ _ _ _ _ _ _ _ _ _ _ _ _ _ _ _ _ _ _ _ _ _ _ _ _ _ _ _ _ _ _ _ _ _ _ _ _ _ _ _ _ _ _ _ _ _ _ _ _ _ _ _ _ _ _ _ _ _ _ _ _ _ _ _ _ _ _ _ _ _ _ _ _ _ _ _ _ _ _ _ _ _ _ _ _ _ _ _ _ _ _ _ _ _ _ _ _ _ _ _ _ _ _ _ _ _ _ _ _ _ _ _ _ _ _ _ _ _ _ _ _ _ _ _ _ _ _ _ _ _ _ _ _ _ _ _ _ _ _ _ _ _ _ _ _ _ _ _ _ _ _ _ _ _ _ _ _ _ ?_
  intro d158 d159 d160 d161 d162 d163 d164 d165 d166 d167 d168 d169 d170 d171 d172 d173 d174 d175 d176 d177 d178 d179 d180 d181 d182 d183 wc HSyc
  obtain ⟨hsyc, vd, hDk, hDb, hfr⟩ := HSyc.out
  have HSc := Lib.hid hsyc
  have HFr := Lib.hid hfr
  clear hsyc hfr
  have g0 := hDk.cell 0 vd rfl
  have z0 := hDk.frozen 0
  have HDk := Lib.hid hDk
  have HDb := Lib.hid hDb
  clear HCv hbl2 hDk hDb HSyb
  go_upto_region 30 with (at_builtin; refine By.ap1 rfl rfl (.tmp 189) (.tmp 190) rfl 48 HDb.out rfl rfl (by rw [HNN.out]; omega) ?_; intro vf wf hby6 hk6; obtain ⟨Af, cf, rfl, _⟩ := hby6.form; have hDk6 := hk6.blk HDk.out (HDb.out.ne HDk.out (by decide)); have g6 := hDk6.cell 0 vd rfl; have z6 := hDk6.frozen 0)
  have HB7 : Hid (Below w2.heap.size w2 (wf.setCell ⟨D, 0, none⟩ (.slice Af (logB 1 l ++ [48]).length cf)) ∧ DiskAt (wf.setCell ⟨D, 0, none⟩ (.slice Af (logB 1 l ++ [48]).length cf)) D (logB 1 l ++ [48]) 0) := Lib.hid ⟨((Kp.set wf D 0 _).below (hk6.below HSc.out.bel HFr.out) (fun k e => by rw [e]; exact HD3.out)), _, hDk6.set 0 _, hby6.kp1 (Kp.set wf D 0 _) hDk6 (by decide)⟩
  have hlb : (logB 1 l ++ [48]).length = N + 1 := by rw [List.length_append, HNN.out]; rfl
  rw [hlb] at HB7
  rw [HNN.out]
  have hNN1 : ((N : Int) + 1 == (N : Int) + 1) = true := beq_self_eq_true _
  clear g0 z0 g6 z6 hk6 hby6 hDk6
  generalize wf.setCell ⟨D, 0, none⟩ (.slice Af (N + 1) cf) = w7 at *
  have HOp := Lib.hid (open_any D (logB 1 l ++ [48]) 0 w7 HB7.out.2 (by rw [hlb]; omega) (by omega) (by omega) (HT2.out.below HB7.out.1 HT2.out.lt))
  rw [(wr_open HF.out).1] at HOp
  go_wp2_with fail
  refine HOp.out.mono ?_
  rintro e w8 ⟨hD8, hk8, rfl⟩
  have HB8 := Lib.hid (hk8.below HB7.out.1 (fun k e => by rw [e]; exact HD3.out))
  have HRp := Lib.hid (repair_any D (logB 1 l ++ [48]) 0 w8 hD8 (by rw [hlb]; omega) (by omega) (by omega) (HT2.out.below HB8.out HT2.out.lt))
  rw [(wr_open HF.out).2] at HRp
  clear HOp hD8 hk8
  go_wp2_with fail
  refine HRp.out.mono ?_
  rintro e w9 ⟨rfl, hD9, hk9⟩
  have HB9 := Lib.hid (hk9.below HB8.out (fun k e => by rw [e]; exact HD3.out))
  obtain ⟨A9, c9, g9, _, _, _, _⟩ := hD9.bytes
  rw [hlb] at g9
  clear HRp hD9 hk9
  have HBw := Lib.hid (HB2.out.trans (HB9.out.mono HB2.out.size))
  go_wp2_with fail
  refine (HAw w9 HBw.out).out.mono ?_
  rintro e w10 ⟨rfl, hb10⟩
  go_wp2_with fail
  go_ret
  exact ⟨rfl, HBw.out.trans (hb10.mono HBw.out.size)⟩
end Go.Proofs.YtandanbojfdfjaaDoor
