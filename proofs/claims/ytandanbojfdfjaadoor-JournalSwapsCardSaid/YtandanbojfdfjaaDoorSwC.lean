import Derived.Test.YtandanbojfdfjaaDoorSwD
namespace Go.Proofs.YtandanbojfdfjaaDoor
open Go.ChangeShapes Go.WideShapes Go.ChangeAt Go.RowKit

set_option maxRecDepth 1000000 in
set_option maxHeartbeats 16000000 in
theorem sw_C (K : Act → World → Prop) (R : Ending → World → Prop) (w wa wb wc : World) (l : List Bs) (y : ByteArray) (A3 : Option Addr) (b1 o1 kb ob wh at_ c1 c2 c3 N M i z q : Nat) (HT : Hid (Tb w)) (HF : Hid (Few l)) (hlog : N ≤ 1320) (hc2 : N ≤ c2) (HNN : Hid ((logB 1 l).length = N)) (hz : M ≤ 20) (hc1 : M ≤ c1) (hc3 : M ≤ c3) (HM : Hid (l.length = M)) (hiM : i < M) (hil : i < l.length) (hiM1 : i + 1 < M) (HNe : Hid (chN l i ≠ chN l (i + 1))) (hqN : q + z + 6 ≤ N)
    (HQ : Hid (lenN l i = q)) (HB2 : Hid (Below w.heap.size w wa)) (HC : Hid (Below wa.heap.size wa wb)) (HQt : Hid (Qt wb wc)) (HRl : Hid (Rd wa wa.heap.size (some ⟨b1, o1, none⟩) (scs l))) (HR2 : Hid (Rd wa wa.heap.size (some ⟨kb, ob, none⟩) (bcs (logB 1 l)))) (HEnd : Hid (Rd wb wb.heap.size A3 (ics IntKind.i64 (endsN l l.length))))
    (u3 u4 u5 u6 u9 u13 u14 u15 u16 u17 u18 u19 u20 u21 u22 u23 u24 u25 u26 u27 u28 u29 u30 u31 u32 u33 u34 u35 u36 u37 u38 u39 u40 u41 u42 u43 u44 u45 u46 u47 u48 u49 u50 u51 u52 u53 u54 u55 u56 u57 u58 u59 u60 u61 u62 u63 u64 u65 u66 u67 u68 u69 u70 u71 u72 u73 u74 u75 u76 u77 u78 u79 u80 u81 u82 u83 u84 u85 u86 u87 u88 u89 u90 u91 u92 u93 u94 u95 u96 u97 u98 u99 u100 u101 u102 u103 u104 u105 u106 u107 u108 u109 u110 u111 u112 u113 u114 u115 u116 u117 u118 u119 u120 u121 u122 u123 u124 u125 u126 u127 u128 u129 u130 u131 u132 u133 u134 u135 u136 u137 u138 u139 u140 u141 u142 u143 u144 u145 u146 u147 u148 u149 u150 u151 u152 u153 u154 u155 u156 u157 u158 u159 u160 u161 u162 u163 u164 u165 u166 u167 u169 u170 u171 u172 u173 u174 u175 u176 u177 u178 u179 u180 u181 u182 u183 u184 u185 u186 u187 u188 u189 u190 u191 u192 u193 u194 u195 u196 u197 u198 u199 u200 u201 : Value)
    (hK : ∀ (x6 x18 x19 x20 x169 x170 x171 x172 x173 x174 x175 x176 x177 x178 x179 x180 x181 x182 x183 x184 x185 x186 x187 x188 x189 x190 x191 x192 x193 x194 x195 x196 x197 x198 x199 x200 : Value) (wx : World), Hid (Below w.heap.size w wx) → K ⟨List.toArray ((.slice (some ⟨b1, o1, none⟩) M c1) :: (.int .u8 wh) :: (.int .u8 at_) :: u3 :: u4 :: u5 :: (x6) :: (.slice (some ⟨kb, ob, none⟩) N c2) :: (.slice A3 M c3) :: u9 :: (.int .i64 i) :: (.int .i64 q) :: (.string y) :: u13 :: u14 :: u15 :: u16 :: u17 :: (x18) :: (x19) :: (x20) :: u21 :: u22 :: u23 :: u24 :: u25 :: u26 :: u27 :: u28 :: u29 :: u30 :: u31 :: u32 :: u33 :: u34 :: u35 :: u36 :: u37 :: u38 :: u39 :: u40 :: u41 :: u42 :: u43 :: u44 :: u45 :: u46 :: u47 :: u48 :: u49 :: u50 :: u51 :: u52 :: u53 :: u54 :: u55 :: u56 :: u57 :: u58 :: u59 :: u60 :: u61 :: u62 :: u63 :: u64 :: u65 :: u66 :: u67 :: u68 :: u69 :: u70 :: u71 :: u72 :: u73 :: u74 :: u75 :: u76 :: u77 :: u78 :: u79 :: u80 :: u81 :: u82 :: u83 :: u84 :: u85 :: u86 :: u87 :: u88 :: u89 :: u90 :: u91 :: u92 :: u93 :: u94 :: u95 :: u96 :: u97 :: u98 :: u99 :: u100 :: u101 :: u102 :: u103 :: u104 :: u105 :: u106 :: u107 :: u108 :: u109 :: u110 :: u111 :: u112 :: u113 :: u114 :: u115 :: u116 :: u117 :: u118 :: u119 :: u120 :: u121 :: u122 :: u123 :: u124 :: u125 :: u126 :: u127 :: u128 :: u129 :: u130 :: u131 :: u132 :: u133 :: u134 :: u135 :: u136 :: u137 :: u138 :: u139 :: u140 :: u141 :: u142 :: u143 :: u144 :: u145 :: u146 :: u147 :: u148 :: u149 :: u150 :: u151 :: u152 :: u153 :: u154 :: u155 :: u156 :: u157 :: u158 :: u159 :: u160 :: u161 :: u162 :: u163 :: u164 :: u165 :: u166 :: u167 :: (.bool true) :: (x169) :: (x170) :: (x171) :: (x172) :: (x173) :: (x174) :: (x175) :: (x176) :: (x177) :: (x178) :: (x179) :: (x180) :: (x181) :: (x182) :: (x183) :: (x184) :: (x185) :: (x186) :: (x187) :: (x188) :: (x189) :: (x190) :: (x191) :: (x192) :: (x193) :: (x194) :: (x195) :: (x196) :: (x197) :: (x198) :: (x199) :: (x200) :: u201 :: []), []⟩ wx) :
    swC.wp Tryd.prog (Exit.then K (bodyPost Tryd.prog Tryd.f5 R)) ⟨List.toArray ((.slice (some ⟨b1, o1, none⟩) M c1) :: (.int .u8 wh) :: (.int .u8 at_) :: u3 :: u4 :: u5 :: u6 :: (.slice (some ⟨kb, ob, none⟩) N c2) :: (.slice A3 M c3) :: u9 :: (.int .i64 i) :: (.int .i64 q) :: (.string y) :: u13 :: u14 :: u15 :: u16 :: u17 :: u18 :: u19 :: u20 :: u21 :: u22 :: u23 :: u24 :: u25 :: u26 :: u27 :: u28 :: u29 :: u30 :: u31 :: u32 :: u33 :: u34 :: u35 :: u36 :: u37 :: u38 :: u39 :: u40 :: u41 :: u42 :: u43 :: u44 :: u45 :: u46 :: u47 :: u48 :: u49 :: u50 :: u51 :: u52 :: u53 :: u54 :: u55 :: u56 :: u57 :: u58 :: u59 :: u60 :: u61 :: u62 :: u63 :: u64 :: u65 :: u66 :: u67 :: u68 :: u69 :: u70 :: u71 :: u72 :: u73 :: u74 :: u75 :: u76 :: u77 :: u78 :: u79 :: u80 :: u81 :: u82 :: u83 :: u84 :: u85 :: u86 :: u87 :: u88 :: u89 :: u90 :: u91 :: u92 :: u93 :: u94 :: u95 :: u96 :: u97 :: u98 :: u99 :: u100 :: u101 :: u102 :: u103 :: u104 :: u105 :: u106 :: u107 :: u108 :: u109 :: u110 :: u111 :: u112 :: u113 :: u114 :: u115 :: u116 :: u117 :: u118 :: u119 :: u120 :: u121 :: u122 :: u123 :: u124 :: u125 :: u126 :: u127 :: u128 :: u129 :: u130 :: u131 :: u132 :: u133 :: u134 :: u135 :: u136 :: u137 :: u138 :: u139 :: u140 :: u141 :: u142 :: u143 :: u144 :: u145 :: u146 :: u147 :: u148 :: u149 :: u150 :: u151 :: u152 :: u153 :: u154 :: u155 :: u156 :: u157 :: u158 :: u159 :: u160 :: u161 :: u162 :: u163 :: u164 :: u165 :: u166 :: u167 :: (.bool true) :: u169 :: u170 :: u171 :: u172 :: u173 :: u174 :: u175 :: u176 :: u177 :: u178 :: u179 :: u180 :: u181 :: u182 :: u183 :: u184 :: u185 :: u186 :: u187 :: u188 :: u189 :: u190 :: u191 :: u192 :: u193 :: u194 :: u195 :: u196 :: u197 :: u198 :: u199 :: u200 :: u201 :: []), []⟩ wc := by
  have HK := Lib.hid hK
  clear hK
  conv => arg 2; whnf
  have HBa := Lib.hid (HC.out.trans (HQt.out.below _))
  have HBc := Lib.hid (HB2.out.trans (HBa.out.mono HB2.out.size))
  have hsc := left_scan HF.out.okr (i := i) (by have := HM.out; omega) HNe.out
  have HEc := HEnd.out.keep (HQt.out.below _) (HQt.out.below wb.heap.size).size
  obtain ⟨ke, oe, rfl, hke, hce⟩ := HEc.int (by rw [endsN_len]; omega)
  have ge := hce i (by rw [endsN_len]; omega)
  rw [endsN_get hil] at ge
  have hEN : lenN l (i + 1) + 6 ≤ N := by
    have h1 := lenN_succ (l := l) (j := i + 1) (by have := HM.out; omega)
    have h2 := lenN_le l (i + 1 + 1)
    rw [HNN.out] at h2
    omega
  have hqE : q ≤ lenN l (i + 1) := by rw [← HQ.out]; exact lenN_mono (by omega)
  rw [HQ.out] at hsc
  have hit : (l.take i).length = i := by rw [List.length_take]; omega
  have hsz : (St.zero.adds (l.take i)).size = q := by rw [adds_size, ← HQ.out]; simp [St.zero, lenN]
  generalize lenN l (i + 1) = E at *
  have HSc := Lib.hid hsc
  have HIT := Lib.hid hit
  have HSZ := Lib.hid hsz
  have HRc := Lib.hid (HR2.out.keep HBa.out HBa.out.size)
  have HTc := Lib.hid (HT.out.below HBc.out HT.out.lt)
  have hEN2 : E ≤ N := by omega
  have hEc : ¬ c2 = E := by omega
  have hqc : q ≤ c2 := by omega
  have hbt : (bcs ((logB 1 l).take q)).length = q * 1 := by rw [List.length_map, List.length_take, HNN.out]; omega
  have hbd : (bcs ((logB 1 l).drop E)).length = (N - E) * 1 := by rw [List.length_map, List.length_drop, HNN.out]; omega
  have HBT := Lib.hid hbt
  have HBD := Lib.hid hbd
  have HTk : Hid (Rd wc wc.heap.size (some ⟨kb, ob, none⟩) (bcs ((logB 1 l).take q))) := Lib.hid (by have h := HRc.out.take q; rwa [bcs_take] at h)
  have HDr : Hid (Rd wc wc.heap.size (some ⟨kb, ob + E, none⟩) (bcs ((logB 1 l).drop E))) := Lib.hid (by have h := HRc.out.cut E; rwa [bcs_drop] at h)
  clear hsc hit hsz hce HEc hbt hbd
  have HLe : Hid (((logB 1 l).take q ++ (logB 1 l).drop E).length ≤ 2000000 ∧ ((logB 1 l).take q ++ (logB 1 l).drop E).length = 0 + q + (N - E)) := Lib.hid (by
    have h1 := HBT.out
    have h2 := HBD.out
    rw [List.length_map] at h1 h2
    rw [List.length_append]
    omega)
  have hEc : E < c2 := by omega
  have ge : wc.drew.cell? ⟨ke, oe + i, none⟩ = some (.int .i64 (E : Int)) := ge
  have hke : ke < wc.drew.heap.size := hke
  have HTk := Lib.hid (show Rd wc.drew wc.drew.heap.size (some ⟨kb, ob, none⟩) (bcs ((logB 1 l).take q)) from HTk.out)
  have HDr := Lib.hid (show Rd wc.drew wc.drew.heap.size (some ⟨kb, ob + E, none⟩) (bcs ((logB 1 l).drop E)) from HDr.out)
  have HTd := Lib.hid (HTc.out.below (Below.refl wc.heap.size wc).drew HTc.out.lt)
  have HBd := Lib.hid (HBc.out.drew)
  have HBad := Lib.hid (HBa.out.drew)
  obtain ⟨we, rfl⟩ : ∃ we : World, we = wc := ⟨_, rfl⟩
  go_upto_region 20 with fail
  go_cut [18, 19, 20] from 169 to 200 (fun v18 v19 v20 wx => ∃ a5 c5, v18 = .slice a5 i c5 ∧ v19 = .int .i64 (q : Int) ∧ v20 = .int .u8 2 ∧ Hid (Rd wx wx.heap.size a5 (scs (l.take i))) ∧ Hid (Below we.drew.heap.size we.drew wx))
  case first =>
    refine wp_region_any (by kernel_rfl) ?_
    change wpAny _ _ _ _ _ _ _ (World.drew _)
    generalize we.drew = wd at *
    refine wpAny_take (i := 1) (oi := ⟨some 171, Op.move (Operand.tmp 7), 26, "outright.go:162", #[], none⟩) (v := (.slice (some ⟨kb, ob, none⟩) N c2)) rfl (by kernel_rfl) (by kernel_rfl) (by kernel_rfl) (fun _ _ _ h => h) (Or.inl ⟨by kernel_rfl, fun _ => (by kernel_rfl)⟩) ?_
    refine wpAny_take (i := 2) (oi := ⟨some 172, Op.move (Operand.tmp 11), 3, "outright.go:162", #[], none⟩) (v := (.int .i64 (q : Int))) rfl (by kernel_rfl) (by kernel_rfl) (by kernel_rfl) (fun _ _ _ h => h) (Or.inl ⟨by kernel_rfl, fun _ => (by kernel_rfl)⟩) ?_
    refine wpAny_take (i := 3) (oi := ⟨some 173, Op.slice 26 (Operand.tmp 171) none (some (Operand.tmp 172)) none, 26, "outright.go:162", #[⟨1, .data⟩, ⟨2, .data⟩], none⟩) (v := (.slice (some ⟨kb, ob, none⟩) q c2)) rfl (by kernel_rfl) (by kernel_rfl) (by kernel_rfl) (fun _ _ _ h => h) (Or.inl ⟨by kernel_rfl, fun _ => (ex_slice_h (n := N) (s := 1) rfl (by kernel_rfl) (by kernel_rfl) (by kernel_rfl) (by kernel_rfl) hqc)⟩) ?_
    refine wpAny_take (i := 5) (oi := ⟨some 175, Op.move (Operand.tmp 7), 26, "outright.go:162", #[], none⟩) (v := (.slice (some ⟨kb, ob, none⟩) N c2)) rfl (by kernel_rfl) (by kernel_rfl) (by kernel_rfl) (fun _ _ _ h => h) (Or.inl ⟨by kernel_rfl, fun _ => (by kernel_rfl)⟩) ?_
    refine wpAny_take (i := 6) (oi := ⟨some 176, Op.move (Operand.tmp 8), 37, "outright.go:162", #[], none⟩) (v := (.slice (some ⟨ke, oe, none⟩) M c3)) rfl (by kernel_rfl) (by kernel_rfl) (by kernel_rfl) (fun _ _ _ h => h) (Or.inl ⟨by kernel_rfl, fun _ => (by kernel_rfl)⟩) ?_
    refine wpAny_take (i := 7) (oi := ⟨some 177, Op.move (Operand.tmp 10), 3, "outright.go:162", #[], none⟩) (v := (.int .i64 (i : Int))) rfl (by kernel_rfl) (by kernel_rfl) (by kernel_rfl) (fun _ _ _ h => h) (Or.inl ⟨by kernel_rfl, fun _ => (by kernel_rfl)⟩) ?_
    refine wpAny_take (i := 8) (oi := ⟨some 178, Op.indexAddr 37 (Operand.tmp 176) (Operand.tmp 177), 0, "outright.go:162", #[⟨6, .data⟩, ⟨7, .data⟩], none⟩) (v := (.pointer (some ⟨ke, oe + i, none⟩))) rfl (by kernel_rfl) (by kernel_rfl) (by kernel_rfl) (fun _ _ _ h => h) (Or.inl ⟨by kernel_rfl, fun _ => (ex_indexAddr (c := c3) (s := 1) rfl (by kernel_rfl) (by kernel_rfl) rfl (by kernel_rfl) (by kernel_rfl) rfl hiM)⟩) ?_
    refine any_val_val 0 9 (o := ⟨some 170, Op.buildSlice 26 0 #[], 26, "outright.go:162", #[], none⟩) (o' := ⟨some 179, Op.load 3 (Operand.tmp 178), 3, "outright.go:162", #[⟨8, .data⟩], none⟩) (w1 := wd.alloc (.cells #[] 5)) (.slice (some ⟨wd.heap.size, 0, none⟩) 0 0) (.int .i64 (E : Int)) (by kernel_rfl) rfl rfl (by kernel_rfl) (by kernel_rfl) (by kernel_rfl) (ex_load _ _ _ rfl (by kernel_rfl) (by kernel_rfl) ge) ?_ ?_
    · skip
      refine any_ap_val 4 9 (o := ⟨some 174, Op.call { callee := Callee.builtin Builtin.append, args := #[Operand.tmp 170, Operand.tmp 173], argTypes := #[26, 26] }, 26, "outright.go:162", #[⟨0, .data⟩, ⟨3, .data⟩], none⟩) (o' := ⟨some 179, Op.load 3 (Operand.tmp 178), 3, "outright.go:162", #[⟨8, .data⟩], none⟩) _ _ _ (.int .i64 (E : Int)) (by kernel_rfl) rfl rfl (by kernel_rfl) (by kernel_rfl) rfl eByte (some ⟨kb, ob, none⟩) q c2 (bcs ((logB 1 l).take q)) (Own.built wd 5 0 [] (Below.refl _ _) rfl (by omega)) (by kernel_rfl) (by kernel_rfl) HBT.out (HTk.out.alloc _) (oneCells_bcs _) (by omega) (ex_load _ _ _ rfl (by kernel_rfl) (by kernel_rfl) ((bcell (below_alloc _ _) ke _ hke).trans ge)) ?_ ?_
      · intro v1 w1' own1 hs1
        refine any_load 9 (o := ⟨some 179, Op.load 3 (Operand.tmp 178), 3, "outright.go:162", #[⟨8, .data⟩], none⟩) _ _ (.int .i64 (E : Int)) (by kernel_rfl) rfl (by kernel_rfl) rfl (by kernel_rfl) (by kernel_rfl) ((bcell own1.bel ke _ hke).trans ge) ?_
        refine any_pure 10 (o := ⟨some 180, Op.slice 26 (Operand.tmp 175) (some (Operand.tmp 179)) none none, 26, "outright.go:162", #[⟨5, .data⟩, ⟨9, .data⟩], none⟩) (.slice (some ⟨kb, ob + E, none⟩) (N - E) (c2 - E)) (by kernel_rfl) rfl (by kernel_rfl) (ex_slice_l (n := N) (c := c2) (s := 1) rfl (by kernel_rfl) (by kernel_rfl) rfl (by kernel_rfl) (by kernel_rfl) rfl hEN2 hEc) ?_
        refine any_ap 11 (o := ⟨some 181, Op.call { callee := Callee.builtin Builtin.append, args := #[Operand.tmp 174, Operand.tmp 180], argTypes := #[26, 26] }, 26, "outright.go:162", #[⟨4, .data⟩, ⟨10, .data⟩, ⟨4, .chain⟩], none⟩) _ _ _ (by kernel_rfl) rfl (by kernel_rfl) rfl eByte (some ⟨kb, ob + E, none⟩) (N - E) (c2 - E) (bcs ((logB 1 l).drop E)) own1 (by kernel_rfl) (by kernel_rfl) HBD.out (HDr.out.now own1.bel) (oneCells_bcs _) (by omega) ?_
        intro v2 w2' own2 hs2
        obtain ⟨A7, c7, rfl, hc7, rd7⟩ := own2.rd
        refine any_call 12 (o := ⟨some 182, Op.call { callee := Callee.value (Operand.func 20), args := #[Operand.tmp 181], argTypes := #[26] }, 42, "outright.go:162", #[⟨11, .data⟩, ⟨11, .chain⟩], none⟩) 20 _ _ #[(.slice A7 (0 + q + (N - E)) c7)] (by kernel_rfl) rfl (by kernel_rfl) rfl (by kernel_rfl) en20 (Calls.mono (scan_num A7 c7 (0 + q + (N - E)) ((logB 1 l).take q ++ (logB 1 l).drop E) (l.take i) q 2 w2' wd (by simpa [bcs] using rd7) hc7 HLe.out.1 HLe.out.2 HTd.out own2.bel (by rw [HSc.out]; exact ⟨(HF.out.take i).recs, HSZ.out, rfl⟩)) ?_)
        rintro e w5 ⟨a5, c5, rfl, _, h5, hb5⟩
        refine ⟨_, rfl, ?_⟩
        refine any_pure 13 (o := ⟨some 169, Op.move (Operand.tmp 182), 42, "outright.go:162", #[⟨12, .data⟩], none⟩) (.tuple #[.slice a5 (l.take i).length c5, .int .i64 q, .int .u8 2]) (by kernel_rfl) rfl (by kernel_rfl) (by kernel_rfl) ?_
        refine wpAny_take (i := 14) (oi := ⟨some 183, Op.extract (Operand.tmp 169) 0, 22, "outright.go:162", #[⟨13, .data⟩], none⟩) (v := (.slice a5 (l.take i).length c5)) rfl (by kernel_rfl) (by kernel_rfl) (by kernel_rfl) (fun _ _ _ h => h) (Or.inl ⟨by kernel_rfl, fun _ => (by kernel_rfl)⟩) ?_
        refine wpAny_take (i := 15) (oi := ⟨some 184, Op.extract (Operand.tmp 169) 1, 3, "outright.go:162", #[⟨13, .data⟩, ⟨17, .gcOnly Go.Departure.lateStores⟩], none⟩) (v := (.int .i64 q)) rfl (by kernel_rfl) (by kernel_rfl) (by kernel_rfl) (fun _ _ _ h => h) (Or.inl ⟨by kernel_rfl, fun _ => (by kernel_rfl)⟩) ?_
        refine wpAny_take (i := 16) (oi := ⟨some 185, Op.extract (Operand.tmp 169) 2, 5, "outright.go:162", #[⟨13, .data⟩, ⟨18, .gcOnly Go.Departure.lateStores⟩], none⟩) (v := (.int .u8 2)) rfl (by kernel_rfl) (by kernel_rfl) (by kernel_rfl) (fun _ _ _ h => h) (Or.inl ⟨by kernel_rfl, fun _ => (by kernel_rfl)⟩) ?_
        refine any_pure 17 (o := ⟨some 18, Op.assign (Operand.tmp 183), 22, "outright.go:162", #[⟨14, .data⟩, ⟨12, .chain⟩, ⟨0, .phase⟩, ⟨1, .phase⟩, ⟨2, .phase⟩, ⟨3, .phase⟩, ⟨4, .phase⟩, ⟨5, .phase⟩, ⟨6, .phase⟩, ⟨7, .phase⟩, ⟨8, .phase⟩, ⟨9, .phase⟩, ⟨10, .phase⟩, ⟨11, .phase⟩, ⟨12, .phase⟩, ⟨13, .phase⟩, ⟨14, .phase⟩, ⟨15, .textOnly Go.Departure.lateStores⟩, ⟨16, .textOnly Go.Departure.lateStores⟩], none⟩) (.slice a5 (l.take i).length c5) (by kernel_rfl) rfl (by kernel_rfl) (by kernel_rfl) ?_
        refine any_pure 18 (o := ⟨some 19, Op.assign (Operand.tmp 184), 3, "outright.go:162", #[⟨15, .data⟩, ⟨17, .chain⟩, ⟨0, .phase⟩, ⟨1, .phase⟩, ⟨2, .phase⟩, ⟨3, .phase⟩, ⟨4, .phase⟩, ⟨5, .phase⟩, ⟨6, .phase⟩, ⟨7, .phase⟩, ⟨8, .phase⟩, ⟨9, .phase⟩, ⟨10, .phase⟩, ⟨11, .phase⟩, ⟨12, .phase⟩, ⟨13, .phase⟩, ⟨14, .phase⟩, ⟨15, .phase⟩, ⟨16, .textOnly Go.Departure.lateStores⟩, ⟨17, .phase⟩], none⟩) (.int .i64 q) (by kernel_rfl) rfl (by kernel_rfl) (by kernel_rfl) ?_
        refine any_pure 19 (o := ⟨some 20, Op.assign (Operand.tmp 185), 5, "outright.go:162", #[⟨16, .data⟩, ⟨18, .chain⟩, ⟨0, .phase⟩, ⟨1, .phase⟩, ⟨2, .phase⟩, ⟨3, .phase⟩, ⟨4, .phase⟩, ⟨5, .phase⟩, ⟨6, .phase⟩, ⟨7, .phase⟩, ⟨8, .phase⟩, ⟨9, .phase⟩, ⟨10, .phase⟩, ⟨11, .phase⟩, ⟨12, .phase⟩, ⟨13, .phase⟩, ⟨14, .phase⟩, ⟨15, .phase⟩, ⟨16, .phase⟩, ⟨17, .phase⟩, ⟨18, .phase⟩], none⟩) (.int .u8 2) (by kernel_rfl) rfl (by kernel_rfl) (by kernel_rfl) ?_
        refine wpAny_done (by kernel_rfl) ?_ _
        simp only [Act.put, List.setIfInBounds_toArray, List.set_cons_succ, List.set_cons_zero]
        rw [HIT.out]
        go_wp2_with fail
        go_meet
        exact ⟨a5, c5, rfl, rfl, rfl, Lib.hid h5, Lib.hid hb5⟩
      · skip
        refine wpAny_take (i := 10) (oi := ⟨some 180, Op.slice 26 (Operand.tmp 175) (some (Operand.tmp 179)) none none, 26, "outright.go:162", #[⟨5, .data⟩, ⟨9, .data⟩], none⟩) (v := (.slice (some ⟨kb, ob + E, none⟩) (N - E) (c2 - E))) rfl (by kernel_rfl) (by kernel_rfl) (by kernel_rfl) (fun _ _ _ h => h) (Or.inl ⟨by kernel_rfl, fun _ => (ex_slice_l (n := N) (c := c2) (s := 1) rfl (by kernel_rfl) (by kernel_rfl) rfl (by kernel_rfl) (by kernel_rfl) rfl hEN2 hEc)⟩) ?_
        refine any_ap 4 (o := ⟨some 174, Op.call { callee := Callee.builtin Builtin.append, args := #[Operand.tmp 170, Operand.tmp 173], argTypes := #[26, 26] }, 26, "outright.go:162", #[⟨0, .data⟩, ⟨3, .data⟩], none⟩) _ _ _ (by kernel_rfl) rfl (by kernel_rfl) rfl eByte (some ⟨kb, ob, none⟩) q c2 (bcs ((logB 1 l).take q)) (Own.built wd 5 0 [] (Below.refl _ _) rfl (by omega)) (by kernel_rfl) (by kernel_rfl) HBT.out (HTk.out.alloc _) (oneCells_bcs _) (by omega) ?_
        intro v1 w1' own1 hs1
        refine any_ap 11 (o := ⟨some 181, Op.call { callee := Callee.builtin Builtin.append, args := #[Operand.tmp 174, Operand.tmp 180], argTypes := #[26, 26] }, 26, "outright.go:162", #[⟨4, .data⟩, ⟨10, .data⟩, ⟨4, .chain⟩], none⟩) _ _ _ (by kernel_rfl) rfl (by kernel_rfl) rfl eByte (some ⟨kb, ob + E, none⟩) (N - E) (c2 - E) (bcs ((logB 1 l).drop E)) own1 (by kernel_rfl) (by kernel_rfl) HBD.out (HDr.out.now own1.bel) (oneCells_bcs _) (by omega) ?_
        intro v2 w2' own2 hs2
        obtain ⟨A7, c7, rfl, hc7, rd7⟩ := own2.rd
        refine any_call 12 (o := ⟨some 182, Op.call { callee := Callee.value (Operand.func 20), args := #[Operand.tmp 181], argTypes := #[26] }, 42, "outright.go:162", #[⟨11, .data⟩, ⟨11, .chain⟩], none⟩) 20 _ _ #[(.slice A7 (0 + q + (N - E)) c7)] (by kernel_rfl) rfl (by kernel_rfl) rfl (by kernel_rfl) en20 (Calls.mono (scan_num A7 c7 (0 + q + (N - E)) ((logB 1 l).take q ++ (logB 1 l).drop E) (l.take i) q 2 w2' wd (by simpa [bcs] using rd7) hc7 HLe.out.1 HLe.out.2 HTd.out own2.bel (by rw [HSc.out]; exact ⟨(HF.out.take i).recs, HSZ.out, rfl⟩)) ?_)
        rintro e w5 ⟨a5, c5, rfl, _, h5, hb5⟩
        refine ⟨_, rfl, ?_⟩
        refine any_pure 13 (o := ⟨some 169, Op.move (Operand.tmp 182), 42, "outright.go:162", #[⟨12, .data⟩], none⟩) (.tuple #[.slice a5 (l.take i).length c5, .int .i64 q, .int .u8 2]) (by kernel_rfl) rfl (by kernel_rfl) (by kernel_rfl) ?_
        refine wpAny_take (i := 14) (oi := ⟨some 183, Op.extract (Operand.tmp 169) 0, 22, "outright.go:162", #[⟨13, .data⟩], none⟩) (v := (.slice a5 (l.take i).length c5)) rfl (by kernel_rfl) (by kernel_rfl) (by kernel_rfl) (fun _ _ _ h => h) (Or.inl ⟨by kernel_rfl, fun _ => (by kernel_rfl)⟩) ?_
        refine wpAny_take (i := 15) (oi := ⟨some 184, Op.extract (Operand.tmp 169) 1, 3, "outright.go:162", #[⟨13, .data⟩, ⟨17, .gcOnly Go.Departure.lateStores⟩], none⟩) (v := (.int .i64 q)) rfl (by kernel_rfl) (by kernel_rfl) (by kernel_rfl) (fun _ _ _ h => h) (Or.inl ⟨by kernel_rfl, fun _ => (by kernel_rfl)⟩) ?_
        refine wpAny_take (i := 16) (oi := ⟨some 185, Op.extract (Operand.tmp 169) 2, 5, "outright.go:162", #[⟨13, .data⟩, ⟨18, .gcOnly Go.Departure.lateStores⟩], none⟩) (v := (.int .u8 2)) rfl (by kernel_rfl) (by kernel_rfl) (by kernel_rfl) (fun _ _ _ h => h) (Or.inl ⟨by kernel_rfl, fun _ => (by kernel_rfl)⟩) ?_
        refine any_pure 17 (o := ⟨some 18, Op.assign (Operand.tmp 183), 22, "outright.go:162", #[⟨14, .data⟩, ⟨12, .chain⟩, ⟨0, .phase⟩, ⟨1, .phase⟩, ⟨2, .phase⟩, ⟨3, .phase⟩, ⟨4, .phase⟩, ⟨5, .phase⟩, ⟨6, .phase⟩, ⟨7, .phase⟩, ⟨8, .phase⟩, ⟨9, .phase⟩, ⟨10, .phase⟩, ⟨11, .phase⟩, ⟨12, .phase⟩, ⟨13, .phase⟩, ⟨14, .phase⟩, ⟨15, .textOnly Go.Departure.lateStores⟩, ⟨16, .textOnly Go.Departure.lateStores⟩], none⟩) (.slice a5 (l.take i).length c5) (by kernel_rfl) rfl (by kernel_rfl) (by kernel_rfl) ?_
        refine any_pure 18 (o := ⟨some 19, Op.assign (Operand.tmp 184), 3, "outright.go:162", #[⟨15, .data⟩, ⟨17, .chain⟩, ⟨0, .phase⟩, ⟨1, .phase⟩, ⟨2, .phase⟩, ⟨3, .phase⟩, ⟨4, .phase⟩, ⟨5, .phase⟩, ⟨6, .phase⟩, ⟨7, .phase⟩, ⟨8, .phase⟩, ⟨9, .phase⟩, ⟨10, .phase⟩, ⟨11, .phase⟩, ⟨12, .phase⟩, ⟨13, .phase⟩, ⟨14, .phase⟩, ⟨15, .phase⟩, ⟨16, .textOnly Go.Departure.lateStores⟩, ⟨17, .phase⟩], none⟩) (.int .i64 q) (by kernel_rfl) rfl (by kernel_rfl) (by kernel_rfl) ?_
        refine any_pure 19 (o := ⟨some 20, Op.assign (Operand.tmp 185), 5, "outright.go:162", #[⟨16, .data⟩, ⟨18, .chain⟩, ⟨0, .phase⟩, ⟨1, .phase⟩, ⟨2, .phase⟩, ⟨3, .phase⟩, ⟨4, .phase⟩, ⟨5, .phase⟩, ⟨6, .phase⟩, ⟨7, .phase⟩, ⟨8, .phase⟩, ⟨9, .phase⟩, ⟨10, .phase⟩, ⟨11, .phase⟩, ⟨12, .phase⟩, ⟨13, .phase⟩, ⟨14, .phase⟩, ⟨15, .phase⟩, ⟨16, .phase⟩, ⟨17, .phase⟩, ⟨18, .phase⟩], none⟩) (.int .u8 2) (by kernel_rfl) rfl (by kernel_rfl) (by kernel_rfl) ?_
        refine wpAny_done (by kernel_rfl) ?_ _
        simp only [Act.put, List.setIfInBounds_toArray, List.set_cons_succ, List.set_cons_zero]
        rw [HIT.out]
        go_wp2_with fail
        go_meet
        exact ⟨a5, c5, rfl, rfl, rfl, Lib.hid h5, Lib.hid hb5⟩
    · skip
      refine wpAny_take (i := 10) (oi := ⟨some 180, Op.slice 26 (Operand.tmp 175) (some (Operand.tmp 179)) none none, 26, "outright.go:162", #[⟨5, .data⟩, ⟨9, .data⟩], none⟩) (v := (.slice (some ⟨kb, ob + E, none⟩) (N - E) (c2 - E))) rfl (by kernel_rfl) (by kernel_rfl) (by kernel_rfl) (fun _ _ _ h => h) (Or.inl ⟨by kernel_rfl, fun _ => (ex_slice_l (n := N) (c := c2) (s := 1) rfl (by kernel_rfl) (by kernel_rfl) rfl (by kernel_rfl) (by kernel_rfl) rfl hEN2 hEc)⟩) ?_
      refine any_val 0 (o := ⟨some 170, Op.buildSlice 26 0 #[], 26, "outright.go:162", #[], none⟩) (w' := wd.alloc (.cells #[] 5)) (.slice (some ⟨wd.heap.size, 0, none⟩) 0 0) (by kernel_rfl) rfl (by kernel_rfl) (by kernel_rfl) ?_
      refine any_ap 4 (o := ⟨some 174, Op.call { callee := Callee.builtin Builtin.append, args := #[Operand.tmp 170, Operand.tmp 173], argTypes := #[26, 26] }, 26, "outright.go:162", #[⟨0, .data⟩, ⟨3, .data⟩], none⟩) _ _ _ (by kernel_rfl) rfl (by kernel_rfl) rfl eByte (some ⟨kb, ob, none⟩) q c2 (bcs ((logB 1 l).take q)) (Own.built wd 5 0 [] (Below.refl _ _) rfl (by omega)) (by kernel_rfl) (by kernel_rfl) HBT.out (HTk.out.alloc _) (oneCells_bcs _) (by omega) ?_
      intro v1 w1' own1 hs1
      refine any_ap 11 (o := ⟨some 181, Op.call { callee := Callee.builtin Builtin.append, args := #[Operand.tmp 174, Operand.tmp 180], argTypes := #[26, 26] }, 26, "outright.go:162", #[⟨4, .data⟩, ⟨10, .data⟩, ⟨4, .chain⟩], none⟩) _ _ _ (by kernel_rfl) rfl (by kernel_rfl) rfl eByte (some ⟨kb, ob + E, none⟩) (N - E) (c2 - E) (bcs ((logB 1 l).drop E)) own1 (by kernel_rfl) (by kernel_rfl) HBD.out (HDr.out.now own1.bel) (oneCells_bcs _) (by omega) ?_
      intro v2 w2' own2 hs2
      obtain ⟨A7, c7, rfl, hc7, rd7⟩ := own2.rd
      refine any_call 12 (o := ⟨some 182, Op.call { callee := Callee.value (Operand.func 20), args := #[Operand.tmp 181], argTypes := #[26] }, 42, "outright.go:162", #[⟨11, .data⟩, ⟨11, .chain⟩], none⟩) 20 _ _ #[(.slice A7 (0 + q + (N - E)) c7)] (by kernel_rfl) rfl (by kernel_rfl) rfl (by kernel_rfl) en20 (Calls.mono (scan_num A7 c7 (0 + q + (N - E)) ((logB 1 l).take q ++ (logB 1 l).drop E) (l.take i) q 2 w2' wd (by simpa [bcs] using rd7) hc7 HLe.out.1 HLe.out.2 HTd.out own2.bel (by rw [HSc.out]; exact ⟨(HF.out.take i).recs, HSZ.out, rfl⟩)) ?_)
      rintro e w5 ⟨a5, c5, rfl, _, h5, hb5⟩
      refine ⟨_, rfl, ?_⟩
      refine any_pure 13 (o := ⟨some 169, Op.move (Operand.tmp 182), 42, "outright.go:162", #[⟨12, .data⟩], none⟩) (.tuple #[.slice a5 (l.take i).length c5, .int .i64 q, .int .u8 2]) (by kernel_rfl) rfl (by kernel_rfl) (by kernel_rfl) ?_
      refine wpAny_take (i := 14) (oi := ⟨some 183, Op.extract (Operand.tmp 169) 0, 22, "outright.go:162", #[⟨13, .data⟩], none⟩) (v := (.slice a5 (l.take i).length c5)) rfl (by kernel_rfl) (by kernel_rfl) (by kernel_rfl) (fun _ _ _ h => h) (Or.inl ⟨by kernel_rfl, fun _ => (by kernel_rfl)⟩) ?_
      refine wpAny_take (i := 15) (oi := ⟨some 184, Op.extract (Operand.tmp 169) 1, 3, "outright.go:162", #[⟨13, .data⟩, ⟨17, .gcOnly Go.Departure.lateStores⟩], none⟩) (v := (.int .i64 q)) rfl (by kernel_rfl) (by kernel_rfl) (by kernel_rfl) (fun _ _ _ h => h) (Or.inl ⟨by kernel_rfl, fun _ => (by kernel_rfl)⟩) ?_
      refine wpAny_take (i := 16) (oi := ⟨some 185, Op.extract (Operand.tmp 169) 2, 5, "outright.go:162", #[⟨13, .data⟩, ⟨18, .gcOnly Go.Departure.lateStores⟩], none⟩) (v := (.int .u8 2)) rfl (by kernel_rfl) (by kernel_rfl) (by kernel_rfl) (fun _ _ _ h => h) (Or.inl ⟨by kernel_rfl, fun _ => (by kernel_rfl)⟩) ?_
      refine any_pure 17 (o := ⟨some 18, Op.assign (Operand.tmp 183), 22, "outright.go:162", #[⟨14, .data⟩, ⟨12, .chain⟩, ⟨0, .phase⟩, ⟨1, .phase⟩, ⟨2, .phase⟩, ⟨3, .phase⟩, ⟨4, .phase⟩, ⟨5, .phase⟩, ⟨6, .phase⟩, ⟨7, .phase⟩, ⟨8, .phase⟩, ⟨9, .phase⟩, ⟨10, .phase⟩, ⟨11, .phase⟩, ⟨12, .phase⟩, ⟨13, .phase⟩, ⟨14, .phase⟩, ⟨15, .textOnly Go.Departure.lateStores⟩, ⟨16, .textOnly Go.Departure.lateStores⟩], none⟩) (.slice a5 (l.take i).length c5) (by kernel_rfl) rfl (by kernel_rfl) (by kernel_rfl) ?_
      refine any_pure 18 (o := ⟨some 19, Op.assign (Operand.tmp 184), 3, "outright.go:162", #[⟨15, .data⟩, ⟨17, .chain⟩, ⟨0, .phase⟩, ⟨1, .phase⟩, ⟨2, .phase⟩, ⟨3, .phase⟩, ⟨4, .phase⟩, ⟨5, .phase⟩, ⟨6, .phase⟩, ⟨7, .phase⟩, ⟨8, .phase⟩, ⟨9, .phase⟩, ⟨10, .phase⟩, ⟨11, .phase⟩, ⟨12, .phase⟩, ⟨13, .phase⟩, ⟨14, .phase⟩, ⟨15, .phase⟩, ⟨16, .textOnly Go.Departure.lateStores⟩, ⟨17, .phase⟩], none⟩) (.int .i64 q) (by kernel_rfl) rfl (by kernel_rfl) (by kernel_rfl) ?_
      refine any_pure 19 (o := ⟨some 20, Op.assign (Operand.tmp 185), 5, "outright.go:162", #[⟨16, .data⟩, ⟨18, .chain⟩, ⟨0, .phase⟩, ⟨1, .phase⟩, ⟨2, .phase⟩, ⟨3, .phase⟩, ⟨4, .phase⟩, ⟨5, .phase⟩, ⟨6, .phase⟩, ⟨7, .phase⟩, ⟨8, .phase⟩, ⟨9, .phase⟩, ⟨10, .phase⟩, ⟨11, .phase⟩, ⟨12, .phase⟩, ⟨13, .phase⟩, ⟨14, .phase⟩, ⟨15, .phase⟩, ⟨16, .phase⟩, ⟨17, .phase⟩, ⟨18, .phase⟩], none⟩) (.int .u8 2) (by kernel_rfl) rfl (by kernel_rfl) (by kernel_rfl) ?_
      refine wpAny_done (by kernel_rfl) ?_ _
      simp only [Act.put, List.setIfInBounds_toArray, List.set_cons_succ, List.set_cons_zero]
      rw [HIT.out]
      go_wp2_with fail
      go_meet
      exact ⟨a5, c5, rfl, rfl, rfl, Lib.hid h5, Lib.hid hb5⟩
  case rest =>
    obtain ⟨a5, c5, rfl, rfl, rfl, H5, HB5⟩ := hcut
    have hbx := HBad.out.trans (HB5.out.mono HBad.out.size)
    have HSm := Lib.hid (same_num (c := c5) (d := c1) (xs := l.take i) (ys := l.take i) (n := i) (m := i) (r := true) (A := a5) (B := some ⟨b1, o1, none⟩) (w := wc) (w0 := wc) H5.out (by
      have h := (HRl.out.keep hbx hbx.size).take i
      rw [← List.map_take] at h
      exact h) (Below.refl _ _) HIT.out HIT.out (by omega) (by omega) (by simp))
    have HBx := Lib.hid (HB2.out.trans (hbx.mono HB2.out.size))
    clear H5 HB5 HEnd HR2 HQ hbx HTk HDr ge HBT HBD HLe HTd HTc HSc HRc
    go_wp2_with fail
    refine HSm.out.mono ?_
    rintro e w6 ⟨rfl, _, hb6⟩
    have HB6 := Lib.hid (HBx.out.trans (hb6.mono HBx.out.size))
    clear hb6 HSm
    go_wp2_with fail
    exact HK.out _ _ _ _ _ _ _ _ _ _ _ _ _ _ _ _ _ _ _ _ _ _ _ _ _ _ _ _ _ _ _ _ _ _ _ _ _ HB6

end Go.Proofs.YtandanbojfdfjaaDoor
