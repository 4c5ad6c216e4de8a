import Derived.Test.YtandanbojfdfjaaDoorSwD
namespace Go.Proofs.YtandanbojfdfjaaDoor
open Go.ChangeShapes Go.WideShapes Go.ChangeAt Go.RowKit

set_option maxRecDepth 1000000 in
set_option maxHeartbeats 16000000 in
theorem sw_B (K : Act → World → Prop) (Q0 : Exit → Act → World → Prop) (wb : World) (l : List Bs) (s : Bs) (y : ByteArray) (b1 o1 kb ob wh at_ c1 c2 N M i z q : Nat) (HF : Hid (Few l)) (hlog : N ≤ 1320) (hc2 : N ≤ c2) (HNN : Hid ((logB 1 l).length = N)) (hz : M ≤ 20) (hc1 : M ≤ c1) (HM : Hid (l.length = M)) (hiM : i < M) (hil : i < l.length) (hMN : 6 ≤ N) (hqN : q + z + 6 ≤ N)
    (HQ : Hid (lenN l i = q)) (H4 : Hid (∀ p r : Nat, p < 9973 → r < 9973 → p ≠ r → (!(ByteArray.mk (four p).toArray).toList == (ByteArray.mk (four r).toArray).toList) = true)) (HE4 : Hid (Sl4 wb l kb ob c2 N)) (HLl : Hid (Rd wb wb.heap.size (some ⟨b1, o1, none⟩) (scs l)))
    (u3 u4 u5 u6 u8 u9 u13 u14 u15 u16 u17 u18 u19 u20 u21 u22 u23 u24 u25 u26 u27 u28 u29 u30 u31 u32 u33 u34 u35 u36 u37 u38 u39 u40 u41 u42 u43 u44 u45 u46 u47 u48 u49 u50 u51 u52 u53 u54 u55 u56 u57 u58 u59 u60 u61 u62 u63 u64 u65 u66 u67 u68 u69 u70 u71 u72 u73 u74 u75 u76 u77 u78 u79 u80 u81 u82 u83 u84 u85 u86 u87 u88 u89 u90 u91 u92 u93 u94 u95 u96 u97 u98 u99 u100 u101 u102 u103 u104 u105 u106 u107 u108 u109 u110 u111 u112 u113 u114 u115 u116 u117 u118 u119 u120 u121 u122 u123 u124 u125 u126 u127 u128 u129 u130 u131 u132 u133 u134 u135 u136 u137 u138 u139 u140 u141 u142 u143 u144 u145 u146 u147 u148 u149 u150 u151 u152 u153 u154 u155 u156 u157 u158 u159 u160 u161 u162 u163 u164 u165 u166 u167 u168 u169 u170 u171 u172 u173 u174 u175 u176 u177 u178 u179 u180 u181 u182 u183 u184 u185 u186 u187 u188 u189 u190 u191 u192 u193 u194 u195 u196 u197 u198 u199 u200 u201 : Value)
    (hK : ∀ (x120 x121 x122 x123 x124 x125 x126 x127 x128 x129 x130 x131 x132 x133 x134 x135 x136 x137 x138 x139 x140 x141 x142 x143 x144 x145 x146 x147 x148 x149 x150 x151 x152 x153 x154 x155 x156 x157 x158 x159 x160 x161 x162 x163 x164 x165 x166 x167 x168 : Value) (wx : World), ((x168 = .bool true ∧ i + 1 < M ∧ Hid (chN l i ≠ chN l (i + 1))) ∨ x168 = .bool false) ∧ Hid (Qt wb wx) → K ⟨List.toArray ((.slice (some ⟨b1, o1, none⟩) M c1) :: (.int .u8 wh) :: (.int .u8 at_) :: u3 :: u4 :: u5 :: u6 :: (.slice (some ⟨kb, ob, none⟩) N c2) :: u8 :: u9 :: (.int .i64 i) :: (.int .i64 q) :: (.string y) :: u13 :: u14 :: u15 :: u16 :: u17 :: u18 :: u19 :: u20 :: u21 :: u22 :: u23 :: u24 :: u25 :: u26 :: u27 :: u28 :: u29 :: u30 :: u31 :: u32 :: u33 :: u34 :: u35 :: u36 :: u37 :: u38 :: u39 :: u40 :: u41 :: u42 :: u43 :: u44 :: u45 :: u46 :: u47 :: u48 :: u49 :: u50 :: u51 :: u52 :: u53 :: u54 :: u55 :: u56 :: u57 :: u58 :: u59 :: u60 :: u61 :: u62 :: u63 :: u64 :: u65 :: u66 :: u67 :: u68 :: u69 :: u70 :: u71 :: u72 :: u73 :: u74 :: u75 :: u76 :: u77 :: u78 :: u79 :: u80 :: u81 :: u82 :: u83 :: u84 :: u85 :: u86 :: u87 :: u88 :: u89 :: u90 :: u91 :: u92 :: u93 :: u94 :: u95 :: u96 :: u97 :: u98 :: u99 :: u100 :: u101 :: u102 :: u103 :: u104 :: u105 :: u106 :: u107 :: u108 :: u109 :: u110 :: u111 :: u112 :: u113 :: u114 :: u115 :: u116 :: u117 :: u118 :: u119 :: (x120) :: (x121) :: (x122) :: (x123) :: (x124) :: (x125) :: (x126) :: (x127) :: (x128) :: (x129) :: (x130) :: (x131) :: (x132) :: (x133) :: (x134) :: (x135) :: (x136) :: (x137) :: (x138) :: (x139) :: (x140) :: (x141) :: (x142) :: (x143) :: (x144) :: (x145) :: (x146) :: (x147) :: (x148) :: (x149) :: (x150) :: (x151) :: (x152) :: (x153) :: (x154) :: (x155) :: (x156) :: (x157) :: (x158) :: (x159) :: (x160) :: (x161) :: (x162) :: (x163) :: (x164) :: (x165) :: (x166) :: (x167) :: (x168) :: u169 :: u170 :: u171 :: u172 :: u173 :: u174 :: u175 :: u176 :: u177 :: u178 :: u179 :: u180 :: u181 :: u182 :: u183 :: u184 :: u185 :: u186 :: u187 :: u188 :: u189 :: u190 :: u191 :: u192 :: u193 :: u194 :: u195 :: u196 :: u197 :: u198 :: u199 :: u200 :: u201 :: []), []⟩ wx) :
    swB.wp Tryd.prog (Exit.then K Q0) ⟨List.toArray ((.slice (some ⟨b1, o1, none⟩) M c1) :: (.int .u8 wh) :: (.int .u8 at_) :: u3 :: u4 :: u5 :: u6 :: (.slice (some ⟨kb, ob, none⟩) N c2) :: u8 :: u9 :: (.int .i64 i) :: (.int .i64 q) :: (.string y) :: u13 :: u14 :: u15 :: u16 :: u17 :: u18 :: u19 :: u20 :: u21 :: u22 :: u23 :: u24 :: u25 :: u26 :: u27 :: u28 :: u29 :: u30 :: u31 :: u32 :: u33 :: u34 :: u35 :: u36 :: u37 :: u38 :: u39 :: u40 :: u41 :: u42 :: u43 :: u44 :: u45 :: u46 :: u47 :: u48 :: u49 :: u50 :: u51 :: u52 :: u53 :: u54 :: u55 :: u56 :: u57 :: u58 :: u59 :: u60 :: u61 :: u62 :: u63 :: u64 :: u65 :: u66 :: u67 :: u68 :: u69 :: u70 :: u71 :: u72 :: u73 :: u74 :: u75 :: u76 :: u77 :: u78 :: u79 :: u80 :: u81 :: u82 :: u83 :: u84 :: u85 :: u86 :: u87 :: u88 :: u89 :: u90 :: u91 :: u92 :: u93 :: u94 :: u95 :: u96 :: u97 :: u98 :: u99 :: u100 :: u101 :: u102 :: u103 :: u104 :: u105 :: u106 :: u107 :: u108 :: u109 :: u110 :: u111 :: u112 :: u113 :: u114 :: u115 :: u116 :: u117 :: u118 :: u119 :: u120 :: u121 :: u122 :: u123 :: u124 :: u125 :: u126 :: u127 :: u128 :: u129 :: u130 :: u131 :: u132 :: u133 :: u134 :: u135 :: u136 :: u137 :: u138 :: u139 :: u140 :: u141 :: u142 :: u143 :: u144 :: u145 :: u146 :: u147 :: u148 :: u149 :: u150 :: u151 :: u152 :: u153 :: u154 :: u155 :: u156 :: u157 :: u158 :: u159 :: u160 :: u161 :: u162 :: u163 :: u164 :: u165 :: u166 :: u167 :: u168 :: u169 :: u170 :: u171 :: u172 :: u173 :: u174 :: u175 :: u176 :: u177 :: u178 :: u179 :: u180 :: u181 :: u182 :: u183 :: u184 :: u185 :: u186 :: u187 :: u188 :: u189 :: u190 :: u191 :: u192 :: u193 :: u194 :: u195 :: u196 :: u197 :: u198 :: u199 :: u200 :: u201 :: []), []⟩ wb := by
  have HK := Lib.hid hK
  clear hK
  conv => arg 2; whnf
  have hwi : IntKind.i64.wrap ((i : Int) + 1) = (i : Int) + 1 := IntWalk.i64_in _ (by omega)
  by_cases hiM1 : i + 1 < M
  · have hb1 : decide ((i : Int) + 1 < (M : Int)) = true := decide_eq_true (by omega)
    by_cases hi0 : i = 0
    · have hcv : ∀ n, (convert 26 9 (.slice (some ⟨kb, ob, none⟩) 4 c2)).run Tryd.prog (wb.drewN n) = .ok (.string ⟨(four (chN l 1)).toArray⟩) (wb.drewN n) := HE4.out 0 (by omega) 0 rfl (by omega)
      have h01 : (ByteArray.mk #[48, 48, 48, 49]) = ⟨(four (chN l 0)).toArray⟩ := by rw [show chN l 0 = 1 from rfl]; decide +kernel
      have hc4 : (4 : Nat) ≤ c2 := by omega
      have hgt : decide ((i : Int) > 0) = false := decide_eq_false (by omega)
      have hgt2 : ¬ 0 < i := by omega
      have hi0b : ((i : Int) == 0) = true := by rw [beq_iff_eq]; omega
      have HI0 := Lib.hid hi0
      clear hi0
      by_cases hch : chN l 0 = chN l 1
      · have hX : (!(ByteArray.mk (four (chN l 1)).toArray).toList == (ByteArray.mk #[48, 48, 48, 49]).toList) = false := eqbB (by rw [h01, hch])
        rw [show (ByteArray.mk #[48, 48, 48, 49]).toList = [48, 48, 48, 49] from ByteArray.toList_mk [48, 48, 48, 49]] at hX
        clear hch h01
        generalize ByteArray.mk (four (chN l 1)).toArray = X at *
        go_quiet (fail)
        go_wp2_with fail
        exact HK.out _ _ _ _ _ _ _ _ _ _ _ _ _ _ _ _ _ _ _ _ _ _ _ _ _ _ _ _ _ _ _ _ _ _ _ _ _ _ _ _ _ _ _ _ _ _ _ _ _ _ (⟨.inr rfl, Lib.hid ⟨_, rfl⟩⟩)
      · have hX : (!(ByteArray.mk (four (chN l 1)).toArray).toList == (ByteArray.mk #[48, 48, 48, 49]).toList) = true := by rw [h01]; exact H4.out _ _ (chN_lt l 1) (chN_lt l 0) (fun h => hch h.symm)
        rw [show (ByteArray.mk #[48, 48, 48, 49]).toList = [48, 48, 48, 49] from ByteArray.toList_mk [48, 48, 48, 49]] at hX
        have HCh := Lib.hid hch
        clear hch h01
        generalize ByteArray.mk (four (chN l 1)).toArray = X at *
        go_quiet (fail)
        go_wp2_with fail
        exact HK.out _ _ _ _ _ _ _ _ _ _ _ _ _ _ _ _ _ _ _ _ _ _ _ _ _ _ _ _ _ _ _ _ _ _ _ _ _ _ _ _ _ _ _ _ _ _ _ _ _ _ (⟨.inl ⟨rfl, hiM1, Lib.hid (by rw [HI0.out]; exact HCh.out)⟩, Lib.hid ⟨_, rfl⟩⟩)
    · have hip : 0 < i := by omega
      have hil' : i - 1 < l.length := by omega
      obtain ⟨b1', o1', he1, hb1', hc1'⟩ := HLl.out.strs (by omega)
      obtain ⟨rfl, rfl⟩ : b1 = b1' ∧ o1 = o1' := by simpa using he1
      have gl := hc1' (i - 1) hil'
      obtain ⟨y2, hy2⟩ : ∃ y2 : ByteArray, ⟨(l.getD (i - 1) []).toArray⟩ = y2 := ⟨_, rfl⟩
      obtain ⟨z2, hz2⟩ : ∃ z2, y2.size = z2 := ⟨_, rfl⟩
      have hz2' : (l.getD (i - 1) []).length = z2 := by rw [← hz2, ← hy2]; rfl
      rw [hy2] at gl
      have hq2 : lenN l (i - 1) + z2 + 6 = q := by
        have h := lenN_succ hil'
        rw [show i - 1 + 1 = i by omega, HQ.out, hz2'] at h
        omega
      obtain ⟨q2, hqq⟩ : ∃ q2, lenN l (i - 1) = q2 := ⟨_, rfl⟩
      rw [hqq] at hq2
      have hcv : ∀ n, (convert 26 9 (.slice (some ⟨kb, ob + q, none⟩) 4 (c2 - q))).run Tryd.prog (wb.drewN n) = .ok (.string ⟨(four (chN l (i + 1))).toArray⟩) (wb.drewN n) := HE4.out i hil q HQ.out (by omega)
      have hcv2 : ∀ n, (convert 26 9 (.slice (some ⟨kb, ob + q2, none⟩) 4 (c2 - q2))).run Tryd.prog (wb.drewN n) = .ok (.string ⟨(four (chN l (i - 1 + 1))).toArray⟩) (wb.drewN n) := HE4.out (i - 1) hil' q2 hqq (by omega)
      rw [show i - 1 + 1 = i by omega] at hcv2
      have hw1 : IntKind.i64.wrap ((i : Int) - 1) = (i : Int) - 1 := IntWalk.i64_in _ (by omega)
      have ht1 : ((i : Int) - 1).toNat = i - 1 := by omega
      have hin : (0 : Int) ≤ (i : Int) - 1 := by omega
      have hin2 : (i : Int) - 1 < (M : Int) := by omega
      have hwq : IntKind.i64.wrap ((q : Int) + 4) = (q : Int) + 4 := IntWalk.i64_in _ (by omega)
      have htq : ((q : Int) + 4).toNat = q + 4 := by omega
      have hwa : IntKind.i64.wrap ((q : Int) - (y2.size : Int)) = (q : Int) - (y2.size : Int) := IntWalk.i64_in _ (by omega)
      have hw6' : IntKind.i64.wrap ((q : Int) - (y2.size : Int) - 6) = (q2 : Int) := (IntWalk.i64_in _ (by omega)).trans (by omega)
      have hwc : IntKind.i64.wrap ((q : Int) - (y2.size : Int) - 2) = (q2 : Int) + 4 := (IntWalk.i64_in _ (by omega)).trans (by omega)
      have htq2 : ((q2 : Int) + 4).toNat = q2 + 4 := by omega
      have hcq : ¬ c2 = q := by omega
      have hcq2 : ¬ c2 = q2 := by omega
      have hbd1 : (q : Int) + 4 ≤ (c2 : Int) := by omega
      have hbd2 : (q2 : Int) + 4 ≤ (c2 : Int) := by omega
      have hbd3 : (q : Int) ≤ (q : Int) + 4 := by omega
      have hbd4 : (q2 : Int) ≤ (q2 : Int) + 4 := by omega
      have hsb1 : q + 4 - q = 4 := by omega
      have hsb2 : q2 + 4 - q2 = 4 := by omega
      have hgt : decide ((i : Int) > 0) = true := decide_eq_true (by omega)
      have hi0b : ((i : Int) == 0) = false := by rw [beq_eq_false_iff_ne]; omega
      by_cases hch : chN l i = chN l (i + 1)
      · have hX : (!(ByteArray.mk (four (chN l (i + 1))).toArray).toList == (ByteArray.mk (four (chN l i)).toArray).toList) = false := eqbB (by rw [hch])
        clear hch hc1' he1 hy2 hz2 hz2' hq2 hqq hi0
        generalize ByteArray.mk (four (chN l (i + 1))).toArray = X at *
        generalize ByteArray.mk (four (chN l i)).toArray = Y at *
        go_quiet (fail)
        go_wp2_with fail
        exact HK.out _ _ _ _ _ _ _ _ _ _ _ _ _ _ _ _ _ _ _ _ _ _ _ _ _ _ _ _ _ _ _ _ _ _ _ _ _ _ _ _ _ _ _ _ _ _ _ _ _ _ (⟨.inr rfl, Lib.hid ⟨_, rfl⟩⟩)
      · have hX : (!(ByteArray.mk (four (chN l (i + 1))).toArray).toList == (ByteArray.mk (four (chN l i)).toArray).toList) = true := H4.out _ _ (chN_lt l _) (chN_lt l _) (fun h => hch h.symm)
        have HCh := Lib.hid hch
        clear hch hc1' he1 hy2 hz2 hz2' hq2 hqq hi0
        generalize ByteArray.mk (four (chN l (i + 1))).toArray = X at *
        generalize ByteArray.mk (four (chN l i)).toArray = Y at *
        go_quiet (fail)
        go_wp2_with fail
        exact HK.out _ _ _ _ _ _ _ _ _ _ _ _ _ _ _ _ _ _ _ _ _ _ _ _ _ _ _ _ _ _ _ _ _ _ _ _ _ _ _ _ _ _ _ _ _ _ _ _ _ _ (⟨.inl ⟨rfl, hiM1, HCh⟩, Lib.hid ⟨_, rfl⟩⟩)
  · have hb1 : decide ((i : Int) + 1 < (M : Int)) = false := decide_eq_false (by omega)
    clear hiM1
    go_quiet (fail)
    go_wp2_with fail
    exact HK.out _ _ _ _ _ _ _ _ _ _ _ _ _ _ _ _ _ _ _ _ _ _ _ _ _ _ _ _ _ _ _ _ _ _ _ _ _ _ _ _ _ _ _ _ _ _ _ _ _ _ (⟨.inr rfl, Lib.hid ⟨_, rfl⟩⟩)
end Go.Proofs.YtandanbojfdfjaaDoor
