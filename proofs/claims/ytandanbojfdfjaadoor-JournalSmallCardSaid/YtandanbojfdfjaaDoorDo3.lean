import Derived.Test.YtandanbojfdfjaaDoorDo2
import Derived.BigRegion
import Derived.Deep.CutBlock
import Derived.RegionTactic
namespace Go.Proofs.YtandanbojfdfjaaDoor
open Go.ChangeShapes Go.WideShapes Go.ChangeAt Go.RowKit

theorem cutR_bd {t n : Nat} {b : Bs} {p : Int} (h2 : -(2^63) ≤ p) (h3 : p < 2^63) : (cutR t b p n).2.1.length ≤ b.length ∧ -(2^63) ≤ (cutR t b p n).2.2 ∧ (cutR t b p n).2.2 < 2^63 := by
  have hu := useL_rng (p := p) 1 h2 h3
  unfold cutR
  split
  · exact ⟨Nat.le_refl _, h2, h3⟩
  · split
    · exact ⟨Nat.le_refl _, h2, h3⟩
    · exact ⟨by simp only [List.length_take]; omega, hu⟩
theorem rblk_of {w : World} {E : Nat} {b : Bs} {p : Int} (h : RDk w E b p) : ∃ v, Blk w E 83 (dsk v p) ∧ By w v b := h
theorem di_rep {w0 w w1 w2 : World} {D E Y B : Nat} {b : Bs} {p : Int} {s : St} {cl : Bool} {x : Opn} {g h q : Option Nat} {e1 e2 : Ending} (H : DS w0 w D E Y b p s cl b p s cl x g h q) (ha : RepairP w D (repairR b p) e1 w1) (hb : RepairQP w1 E (repairR b p) e2 w2)
    (h1 : b.length ≤ B) (h2 : -(2^63) ≤ p) (h3 : p < 2^63) (h4 : s.size ≤ B) (h5 : s.recs.length ≤ B) : DI w0 w2 D E Y x.val B := by
  obtain ⟨_, hd, hk, hn⟩ := ha
  obtain ⟨g', hp, fg⟩ := H.pd.of_new hd hn
  have hx := H.xl.kp hk (fun k cs hb e => by subst e; obtain ⟨c, hc⟩ := H.pd.blk; exact absurd (blk_ne hb hc) (by decide)) (fun k hk' e => by subst e; obtain ⟨c, hc⟩ := H.pd.blk; obtain ⟨c', hc'⟩ := H.xl.rblk _ hk'; exact absurd (blk_ne hc' hc) (by decide))
  have H1 := H.prog (hk.mono fun k _ e => .inl e) hp hx fg (fun k hk' => .inl hk')
  obtain ⟨_, hd2, hk2, hn2⟩ := hb
  obtain ⟨h', hr, fh⟩ := H1.rd.of_new hd2 hn2
  have hl := H1.rl.kp hk2 (fun e => by obtain ⟨c, hc⟩ := H1.rl.blk; obtain ⟨c', hc'⟩ := H1.rd.blk; subst e; exact absurd (blk_ne hc hc') (by decide)) (fun k hk' e => by subst e; obtain ⟨c, hc⟩ := H1.rl.rblk _ hk'; obtain ⟨c', hc'⟩ := H1.rd.blk; exact absurd (blk_ne hc hc') (by decide))
  have H2 := H1.ref (hk2.mono fun k _ e => .inl e) hr hl (fun k hk' => by
    rcases fh with rfl | f
    · exact .inl hk'
    · exact .inr (f k hk')) (fun k hk' => .inl hk')
  have hb1 : (repairR b p).2.2.1.length ≤ b.length ∧ -(2^63) ≤ (repairR b p).2.2.2 ∧ (repairR b p).2.2.2 < 2^63 := by
    unfold repairR
    by_cases a : 1048576 < b.length
    · rw [if_pos a]; exact ⟨Nat.le_refl _, h2, h3⟩
    · rw [if_neg a]
      by_cases c : (cutR (scanS b).2 b p (scanS b).1.size).1 = 0
      · rw [if_pos c]; exact cutR_bd h2 h3
      · rw [if_neg c]; exact ⟨Nat.le_refl _, h2, h3⟩
  exact ⟨_, _, s, cl, x, g', h', q, H2, rfl, by have := hb1.1; omega, hb1.2.1, hb1.2.2, h4, h5⟩
set_option maxRecDepth 1000000 in
set_option maxHeartbeats 16000000 in
theorem do_C (K : Act → World → Prop) (Q0 : Exit → Act → World → Prop) (hQp : ∀ d v c a w, Q0 (.panic c) (Act.put a (some d) v) w → Q0 (.panic c) a w) (w0 wz : World) (D E Y T B kk : Nat) (kd nn : Int) (t : ByteArray) (xv : Value) (ht : t.size ≤ 300) (hB : B ≤ 1000000) (hn1 : -(2^63) ≤ nn) (hn2 : nn < 2^63) (HI : Hid (DI w0 wz D E Y xv B)) (HTb : Hid (Tb w0)) (HT : Hid (Blk wz T 54 #[.int .u8 kd, .string t, .int .i64 nn])) (hkk : kk = 5)
    (u0 u1 u2 u3 u4 u5 u6 u11 u13 u14 u15 u16 u17 u18 u19 u20 u21 u22 u23 u24 u25 u26 u27 u28 u29 u30 u31 u32 u33 u34 u35 u36 u37 u38 u39 u40 u41 u42 u44 u45 u46 u47 u48 u49 u50 u51 u52 u53 u54 u55 u56 u57 u58 u59 u60 u61 u62 u63 u64 u65 u66 u67 u68 u69 u70 u71 u72 u73 u74 u75 u76 u77 u78 u79 u80 u81 u82 u83 u84 u85 u86 u87 u88 u89 u90 u91 u92 u93 u94 u95 u96 u97 u98 u99 u100 u101 u102 u103 u104 u105 u106 u107 u108 u109 u110 u111 u112 u113 u114 u115 u116 u117 u118 u119 u120 u121 u122 u123 u124 u125 u126 u127 u128 u129 u130 u131 u132 u133 u134 u135 u136 u137 u138 u139 u140 u141 u142 u143 u144 u145 u146 u147 u148 u149 u150 u151 u152 u153 u154 u155 u156 u157 u158 u159 u160 u161 u162 u163 u164 u165 u166 u167 u168 u169 u170 u171 u172 u173 u174 u175 u176 u177 u178 u179 u180 u181 u182 u183 u184 u185 u186 u187 u188 u189 u190 u191 u192 u193 u194 u195 u196 u197 u198 u199 u200 u201 u202 u203 u204 u205 u206 u207 u208 u209 : Value)
    (hK : ∀ (x6 x9 x13 x14 x15 x16 x17 x18 x19 x20 x21 x22 x44 x45 x46 x47 x48 x49 x50 x51 x52 x53 x54 x55 x56 x57 x58 x59 x60 x61 x62 x63 x64 x65 x66 x67 x68 x69 x70 x71 x72 x73 x74 x75 x76 x77 x78 x79 x80 x81 x82 x83 x84 x85 x86 x87 x88 x89 x90 x91 x92 x93 x94 x95 x96 x97 x98 x99 x100 x101 x102 x103 x104 x105 x106 x107 x108 x109 x110 x111 x112 x113 x114 x115 x116 x117 x118 x119 x120 x121 x122 x123 x124 x125 x126 x127 x128 x129 x130 x131 x132 x133 x134 x135 x136 x137 x138 x139 x140 x141 x142 x143 x144 x145 x146 x147 x148 x149 x150 x151 x152 x153 x154 x155 x156 x157 x158 x159 x160 x161 x162 x163 x164 : Value) (wx : World), Hid (DI w0 wx D E Y x9 (B + 306)) → K ⟨List.toArray (u0 :: u1 :: u2 :: u3 :: u4 :: u5 :: (x6) :: (.pointer (some ⟨D, 0, none⟩)) :: (.pointer (some ⟨E, 0, none⟩)) :: (x9) :: (.pointer (some ⟨Y, 0, none⟩)) :: u11 :: (.pointer (some ⟨T, 0, none⟩)) :: (x13) :: (x14) :: (x15) :: (x16) :: (x17) :: (x18) :: (x19) :: (x20) :: (x21) :: (x22) :: u23 :: u24 :: u25 :: u26 :: u27 :: u28 :: u29 :: u30 :: u31 :: u32 :: u33 :: u34 :: u35 :: u36 :: u37 :: u38 :: u39 :: u40 :: u41 :: u42 :: (.int .u8 (kk : Int)) :: (x44) :: (x45) :: (x46) :: (x47) :: (x48) :: (x49) :: (x50) :: (x51) :: (x52) :: (x53) :: (x54) :: (x55) :: (x56) :: (x57) :: (x58) :: (x59) :: (x60) :: (x61) :: (x62) :: (x63) :: (x64) :: (x65) :: (x66) :: (x67) :: (x68) :: (x69) :: (x70) :: (x71) :: (x72) :: (x73) :: (x74) :: (x75) :: (x76) :: (x77) :: (x78) :: (x79) :: (x80) :: (x81) :: (x82) :: (x83) :: (x84) :: (x85) :: (x86) :: (x87) :: (x88) :: (x89) :: (x90) :: (x91) :: (x92) :: (x93) :: (x94) :: (x95) :: (x96) :: (x97) :: (x98) :: (x99) :: (x100) :: (x101) :: (x102) :: (x103) :: (x104) :: (x105) :: (x106) :: (x107) :: (x108) :: (x109) :: (x110) :: (x111) :: (x112) :: (x113) :: (x114) :: (x115) :: (x116) :: (x117) :: (x118) :: (x119) :: (x120) :: (x121) :: (x122) :: (x123) :: (x124) :: (x125) :: (x126) :: (x127) :: (x128) :: (x129) :: (x130) :: (x131) :: (x132) :: (x133) :: (x134) :: (x135) :: (x136) :: (x137) :: (x138) :: (x139) :: (x140) :: (x141) :: (x142) :: (x143) :: (x144) :: (x145) :: (x146) :: (x147) :: (x148) :: (x149) :: (x150) :: (x151) :: (x152) :: (x153) :: (x154) :: (x155) :: (x156) :: (x157) :: (x158) :: (x159) :: (x160) :: (x161) :: (x162) :: (x163) :: (x164) :: u165 :: u166 :: u167 :: u168 :: u169 :: u170 :: u171 :: u172 :: u173 :: u174 :: u175 :: u176 :: u177 :: u178 :: u179 :: u180 :: u181 :: u182 :: u183 :: u184 :: u185 :: u186 :: u187 :: u188 :: u189 :: u190 :: u191 :: u192 :: u193 :: u194 :: u195 :: u196 :: u197 :: u198 :: u199 :: u200 :: u201 :: u202 :: u203 :: u204 :: u205 :: u206 :: u207 :: u208 :: u209 :: []), []⟩ wx) :
    doB.wp Tryd.prog (Exit.then K Q0) ⟨List.toArray (u0 :: u1 :: u2 :: u3 :: u4 :: u5 :: u6 :: (.pointer (some ⟨D, 0, none⟩)) :: (.pointer (some ⟨E, 0, none⟩)) :: (xv) :: (.pointer (some ⟨Y, 0, none⟩)) :: u11 :: (.pointer (some ⟨T, 0, none⟩)) :: u13 :: u14 :: u15 :: u16 :: u17 :: u18 :: u19 :: u20 :: u21 :: u22 :: u23 :: u24 :: u25 :: u26 :: u27 :: u28 :: u29 :: u30 :: u31 :: u32 :: u33 :: u34 :: u35 :: u36 :: u37 :: u38 :: u39 :: u40 :: u41 :: u42 :: (.int .u8 (kk : Int)) :: u44 :: u45 :: u46 :: u47 :: u48 :: u49 :: u50 :: u51 :: u52 :: u53 :: u54 :: u55 :: u56 :: u57 :: u58 :: u59 :: u60 :: u61 :: u62 :: u63 :: u64 :: u65 :: u66 :: u67 :: u68 :: u69 :: u70 :: u71 :: u72 :: u73 :: u74 :: u75 :: u76 :: u77 :: u78 :: u79 :: u80 :: u81 :: u82 :: u83 :: u84 :: u85 :: u86 :: u87 :: u88 :: u89 :: u90 :: u91 :: u92 :: u93 :: u94 :: u95 :: u96 :: u97 :: u98 :: u99 :: u100 :: u101 :: u102 :: u103 :: u104 :: u105 :: u106 :: u107 :: u108 :: u109 :: u110 :: u111 :: u112 :: u113 :: u114 :: u115 :: u116 :: u117 :: u118 :: u119 :: u120 :: u121 :: u122 :: u123 :: u124 :: u125 :: u126 :: u127 :: u128 :: u129 :: u130 :: u131 :: u132 :: u133 :: u134 :: u135 :: u136 :: u137 :: u138 :: u139 :: u140 :: u141 :: u142 :: u143 :: u144 :: u145 :: u146 :: u147 :: u148 :: u149 :: u150 :: u151 :: u152 :: u153 :: u154 :: u155 :: u156 :: u157 :: u158 :: u159 :: u160 :: u161 :: u162 :: u163 :: u164 :: u165 :: u166 :: u167 :: u168 :: u169 :: u170 :: u171 :: u172 :: u173 :: u174 :: u175 :: u176 :: u177 :: u178 :: u179 :: u180 :: u181 :: u182 :: u183 :: u184 :: u185 :: u186 :: u187 :: u188 :: u189 :: u190 :: u191 :: u192 :: u193 :: u194 :: u195 :: u196 :: u197 :: u198 :: u199 :: u200 :: u201 :: u202 :: u203 :: u204 :: u205 :: u206 :: u207 :: u208 :: u209 :: []), []⟩ wz := by
  have HK := Lib.hid hK
  clear hK
  conv => arg 2; whnf
  obtain ⟨b, p, s, cl, x, g, h, q, H, rfl, h1, h2, h3, h4, h5⟩ := HI.out
  have HH := Lib.hid H
  subst hkk
  have HP := Lib.hid (repair_any D b p wz H.pd.at (by omega) h2 h3 (HTb.out.below H.bel HTb.out.lt))
  clear H
  generalize hxv : x.val = xv at *
  have HXv := Lib.hid hxv
  clear hxv
  go_wp2_with fail
  refine HP.out.mono ?_
  intro e w1 hq1
  have HQ1 := Lib.hid hq1
  obtain ⟨rfl, hd1, hk1, _⟩ := hq1
  have HR := Lib.hid (Repair_ref E b p w1 (HH.out.rd.at.kp hk1 (fun e => by obtain ⟨c, hc⟩ := HH.out.rd.blk; obtain ⟨c', hc'⟩ := HH.out.pd.blk; subst e; exact absurd (blk_ne hc hc') (by decide)) (fun k cs hb e => by obtain ⟨c', hc'⟩ := HH.out.pd.blk; subst e; exact absurd (blk_ne hb hc') (by decide))) (by omega) h2 h3)
  clear hd1 hk1 HP
  go_wp2_with fail
  refine HR.out.mono ?_
  intro e w2 hq2
  have hD2 := di_rep HH.out HQ1.out hq2 h1 h2 h3 h4 h5
  rw [HXv.out] at hD2
  have HD2 := Lib.hid (hD2.more (show B ≤ B + 306 by omega))
  obtain ⟨rfl, _⟩ := hq2
  clear hD2 HR
  generalize ((repairR b p).1 : Int) = c1 at *
  generalize ((repairR b p).2.1 : Int) = c2 at *
  have hc1 : (c1 != c1) = false := by simp
  have hc2 : (c2 != c2) = false := by simp
  go_wp2_with fail
  exact HK.out _ xv _ _ _ _ _ _ _ _ _ _ _ _ _ _ _ _ _ _ _ _ _ _ _ _ _ _ _ _ _ _ _ _ _ _ _ _ _ _ _ _ _ _ _ _ _ _ _ _ _ _ _ _ _ _ _ _ _ _ _ _ _ _ _ _ _ _ _ _ _ _ _ _ _ _ _ _ _ _ _ _ _ _ _ _ _ _ _ _ _ _ _ _ _ _ _ _ _ _ _ _ _ _ _ _ _ _ _ _ _ _ _ _ _ _ _ _ _ _ _ _ _ _ _ _ _ _ _ _ _ _ _ _ (HD2)
theorem di_pow {w0 w : World} {D E Y B : Nat} {b : Bs} {p : Int} {s : St} {cl : Bool} {x : Opn} {g h q : Option Nat} (H : DS w0 w D E Y b p s cl b p s cl x g h q) (nn : Int)
    (h1 : b.length ≤ B) (h2 : -(2^63) ≤ nn) (h3 : nn < 2^63) (h4 : s.size ≤ B) (h5 : s.recs.length ≤ B) : DI w0 ((w.setCell ⟨D, 1, none⟩ (.int .i64 nn)).setCell ⟨E, 1, none⟩ (.int .i64 nn)) D E Y x.val B := by
  have hk1 := Kp.set w D 1 (.int .i64 nn)
  obtain ⟨v, hg, hD, hB⟩ := H.pd
  have hx := H.xl.kp hk1 (fun k cs hb e => by subst e; exact absurd (blk_ne hb hD) (by decide)) (fun k hk' e => by subst e; obtain ⟨c', hc'⟩ := H.xl.rblk _ hk'; exact absurd (blk_ne hc' hD) (by decide))
  have H1 := H.prog (hk1.mono fun k _ e => .inl e) ⟨v, hg, hD.set 1 _, hB.kp1 hk1 hD (by decide)⟩ hx (.inl rfl) (fun k hk' => .inl hk')
  have hk2 := Kp.set (w.setCell ⟨D, 1, none⟩ (.int .i64 nn)) E 1 (.int .i64 nn)
  obtain ⟨v2, hg2, hE, hB2⟩ := H1.rd
  have hl := H1.rl.kp hk2 (fun e => by obtain ⟨c, hc⟩ := H1.rl.blk; subst e; exact absurd (blk_ne hc hE) (by decide)) (fun k hk' e => by subst e; obtain ⟨c, hc⟩ := H1.rl.rblk _ hk'; exact absurd (blk_ne hc hE) (by decide))
  have H2 := H1.ref (hk2.mono fun k _ e => .inl e) ⟨v2, hg2, hE.set 1 _, hB2.kp1 hk2 hE (by decide)⟩ hl (fun k hk' => .inl hk') (fun k hk' => .inl hk')
  exact ⟨b, nn, s, cl, x, g, h, q, H2, rfl, h1, h2, h3, h4, h5⟩
theorem di_pow2 {w0 w : World} {D E Y B : Nat} {b : Bs} {p : Int} {s : St} {cl : Bool} {x : Opn} {g h q : Option Nat} (H : DS w0 w D E Y b p s cl b p s cl x g h q) (nn : Int)
    (h1 : b.length ≤ B) (h2 : -(2^63) ≤ nn) (h3 : nn < 2^63) (h4 : s.size ≤ B) (h5 : s.recs.length ≤ B) : DI w0 ((w.setCell ⟨E, 1, none⟩ (.int .i64 nn)).setCell ⟨D, 1, none⟩ (.int .i64 nn)) D E Y x.val B := by
  have hk2 := Kp.set w E 1 (.int .i64 nn)
  obtain ⟨v2, hg2, hE, hB2⟩ := H.rd
  have hl := H.rl.kp hk2 (fun e => by obtain ⟨c, hc⟩ := H.rl.blk; subst e; exact absurd (blk_ne hc hE) (by decide)) (fun k hk' e => by subst e; obtain ⟨c, hc⟩ := H.rl.rblk _ hk'; exact absurd (blk_ne hc hE) (by decide))
  have H1 := H.ref (hk2.mono fun k _ e => .inl e) ⟨v2, hg2, hE.set 1 _, hB2.kp1 hk2 hE (by decide)⟩ hl (fun k hk' => .inl hk') (fun k hk' => .inl hk')
  have hk1 := Kp.set (w.setCell ⟨E, 1, none⟩ (.int .i64 nn)) D 1 (.int .i64 nn)
  obtain ⟨v, hg, hD, hB⟩ := H1.pd
  have hx := H1.xl.kp hk1 (fun k cs hb e => by subst e; exact absurd (blk_ne hb hD) (by decide)) (fun k hk' e => by subst e; obtain ⟨c', hc'⟩ := H1.xl.rblk _ hk'; exact absurd (blk_ne hc' hD) (by decide))
  have H2 := H1.prog (hk1.mono fun k _ e => .inl e) ⟨v, hg, hD.set 1 _, hB.kp1 hk1 hD (by decide)⟩ hx (.inl rfl) (fun k hk' => .inl hk')
  exact ⟨b, nn, s, cl, x, g, h, q, H2, rfl, h1, h2, h3, h4, h5⟩
set_option maxRecDepth 1000000 in
set_option maxHeartbeats 16000000 in
theorem do_D (K : Act → World → Prop) (Q0 : Exit → Act → World → Prop) (hQp : ∀ d v c a w, Q0 (.panic c) (Act.put a (some d) v) w → Q0 (.panic c) a w) (w0 wz : World) (D E Y T B kk : Nat) (kd nn : Int) (t : ByteArray) (xv : Value) (ht : t.size ≤ 300) (hB : B ≤ 1000000) (hn1 : -(2^63) ≤ nn) (hn2 : nn < 2^63) (HI : Hid (DI w0 wz D E Y xv B)) (HTb : Hid (Tb w0)) (HT : Hid (Blk wz T 54 #[.int .u8 kd, .string t, .int .i64 nn])) (hkk : kk = 6)
    (u0 u1 u2 u3 u4 u5 u6 u11 u13 u14 u15 u16 u17 u18 u19 u20 u21 u22 u23 u24 u25 u26 u27 u28 u29 u30 u31 u32 u33 u34 u35 u36 u37 u38 u39 u40 u41 u42 u44 u45 u46 u47 u48 u49 u50 u51 u52 u53 u54 u55 u56 u57 u58 u59 u60 u61 u62 u63 u64 u65 u66 u67 u68 u69 u70 u71 u72 u73 u74 u75 u76 u77 u78 u79 u80 u81 u82 u83 u84 u85 u86 u87 u88 u89 u90 u91 u92 u93 u94 u95 u96 u97 u98 u99 u100 u101 u102 u103 u104 u105 u106 u107 u108 u109 u110 u111 u112 u113 u114 u115 u116 u117 u118 u119 u120 u121 u122 u123 u124 u125 u126 u127 u128 u129 u130 u131 u132 u133 u134 u135 u136 u137 u138 u139 u140 u141 u142 u143 u144 u145 u146 u147 u148 u149 u150 u151 u152 u153 u154 u155 u156 u157 u158 u159 u160 u161 u162 u163 u164 u165 u166 u167 u168 u169 u170 u171 u172 u173 u174 u175 u176 u177 u178 u179 u180 u181 u182 u183 u184 u185 u186 u187 u188 u189 u190 u191 u192 u193 u194 u195 u196 u197 u198 u199 u200 u201 u202 u203 u204 u205 u206 u207 u208 u209 : Value)
    (hK : ∀ (x6 x9 x13 x14 x15 x16 x17 x18 x19 x20 x21 x22 x44 x45 x46 x47 x48 x49 x50 x51 x52 x53 x54 x55 x56 x57 x58 x59 x60 x61 x62 x63 x64 x65 x66 x67 x68 x69 x70 x71 x72 x73 x74 x75 x76 x77 x78 x79 x80 x81 x82 x83 x84 x85 x86 x87 x88 x89 x90 x91 x92 x93 x94 x95 x96 x97 x98 x99 x100 x101 x102 x103 x104 x105 x106 x107 x108 x109 x110 x111 x112 x113 x114 x115 x116 x117 x118 x119 x120 x121 x122 x123 x124 x125 x126 x127 x128 x129 x130 x131 x132 x133 x134 x135 x136 x137 x138 x139 x140 x141 x142 x143 x144 x145 x146 x147 x148 x149 x150 x151 x152 x153 x154 x155 x156 x157 x158 x159 x160 x161 x162 x163 x164 : Value) (wx : World), Hid (DI w0 wx D E Y x9 (B + 306)) → K ⟨List.toArray (u0 :: u1 :: u2 :: u3 :: u4 :: u5 :: (x6) :: (.pointer (some ⟨D, 0, none⟩)) :: (.pointer (some ⟨E, 0, none⟩)) :: (x9) :: (.pointer (some ⟨Y, 0, none⟩)) :: u11 :: (.pointer (some ⟨T, 0, none⟩)) :: (x13) :: (x14) :: (x15) :: (x16) :: (x17) :: (x18) :: (x19) :: (x20) :: (x21) :: (x22) :: u23 :: u24 :: u25 :: u26 :: u27 :: u28 :: u29 :: u30 :: u31 :: u32 :: u33 :: u34 :: u35 :: u36 :: u37 :: u38 :: u39 :: u40 :: u41 :: u42 :: (.int .u8 (kk : Int)) :: (x44) :: (x45) :: (x46) :: (x47) :: (x48) :: (x49) :: (x50) :: (x51) :: (x52) :: (x53) :: (x54) :: (x55) :: (x56) :: (x57) :: (x58) :: (x59) :: (x60) :: (x61) :: (x62) :: (x63) :: (x64) :: (x65) :: (x66) :: (x67) :: (x68) :: (x69) :: (x70) :: (x71) :: (x72) :: (x73) :: (x74) :: (x75) :: (x76) :: (x77) :: (x78) :: (x79) :: (x80) :: (x81) :: (x82) :: (x83) :: (x84) :: (x85) :: (x86) :: (x87) :: (x88) :: (x89) :: (x90) :: (x91) :: (x92) :: (x93) :: (x94) :: (x95) :: (x96) :: (x97) :: (x98) :: (x99) :: (x100) :: (x101) :: (x102) :: (x103) :: (x104) :: (x105) :: (x106) :: (x107) :: (x108) :: (x109) :: (x110) :: (x111) :: (x112) :: (x113) :: (x114) :: (x115) :: (x116) :: (x117) :: (x118) :: (x119) :: (x120) :: (x121) :: (x122) :: (x123) :: (x124) :: (x125) :: (x126) :: (x127) :: (x128) :: (x129) :: (x130) :: (x131) :: (x132) :: (x133) :: (x134) :: (x135) :: (x136) :: (x137) :: (x138) :: (x139) :: (x140) :: (x141) :: (x142) :: (x143) :: (x144) :: (x145) :: (x146) :: (x147) :: (x148) :: (x149) :: (x150) :: (x151) :: (x152) :: (x153) :: (x154) :: (x155) :: (x156) :: (x157) :: (x158) :: (x159) :: (x160) :: (x161) :: (x162) :: (x163) :: (x164) :: u165 :: u166 :: u167 :: u168 :: u169 :: u170 :: u171 :: u172 :: u173 :: u174 :: u175 :: u176 :: u177 :: u178 :: u179 :: u180 :: u181 :: u182 :: u183 :: u184 :: u185 :: u186 :: u187 :: u188 :: u189 :: u190 :: u191 :: u192 :: u193 :: u194 :: u195 :: u196 :: u197 :: u198 :: u199 :: u200 :: u201 :: u202 :: u203 :: u204 :: u205 :: u206 :: u207 :: u208 :: u209 :: []), []⟩ wx) :
    doB.wp Tryd.prog (Exit.then K Q0) ⟨List.toArray (u0 :: u1 :: u2 :: u3 :: u4 :: u5 :: u6 :: (.pointer (some ⟨D, 0, none⟩)) :: (.pointer (some ⟨E, 0, none⟩)) :: (xv) :: (.pointer (some ⟨Y, 0, none⟩)) :: u11 :: (.pointer (some ⟨T, 0, none⟩)) :: u13 :: u14 :: u15 :: u16 :: u17 :: u18 :: u19 :: u20 :: u21 :: u22 :: u23 :: u24 :: u25 :: u26 :: u27 :: u28 :: u29 :: u30 :: u31 :: u32 :: u33 :: u34 :: u35 :: u36 :: u37 :: u38 :: u39 :: u40 :: u41 :: u42 :: (.int .u8 (kk : Int)) :: u44 :: u45 :: u46 :: u47 :: u48 :: u49 :: u50 :: u51 :: u52 :: u53 :: u54 :: u55 :: u56 :: u57 :: u58 :: u59 :: u60 :: u61 :: u62 :: u63 :: u64 :: u65 :: u66 :: u67 :: u68 :: u69 :: u70 :: u71 :: u72 :: u73 :: u74 :: u75 :: u76 :: u77 :: u78 :: u79 :: u80 :: u81 :: u82 :: u83 :: u84 :: u85 :: u86 :: u87 :: u88 :: u89 :: u90 :: u91 :: u92 :: u93 :: u94 :: u95 :: u96 :: u97 :: u98 :: u99 :: u100 :: u101 :: u102 :: u103 :: u104 :: u105 :: u106 :: u107 :: u108 :: u109 :: u110 :: u111 :: u112 :: u113 :: u114 :: u115 :: u116 :: u117 :: u118 :: u119 :: u120 :: u121 :: u122 :: u123 :: u124 :: u125 :: u126 :: u127 :: u128 :: u129 :: u130 :: u131 :: u132 :: u133 :: u134 :: u135 :: u136 :: u137 :: u138 :: u139 :: u140 :: u141 :: u142 :: u143 :: u144 :: u145 :: u146 :: u147 :: u148 :: u149 :: u150 :: u151 :: u152 :: u153 :: u154 :: u155 :: u156 :: u157 :: u158 :: u159 :: u160 :: u161 :: u162 :: u163 :: u164 :: u165 :: u166 :: u167 :: u168 :: u169 :: u170 :: u171 :: u172 :: u173 :: u174 :: u175 :: u176 :: u177 :: u178 :: u179 :: u180 :: u181 :: u182 :: u183 :: u184 :: u185 :: u186 :: u187 :: u188 :: u189 :: u190 :: u191 :: u192 :: u193 :: u194 :: u195 :: u196 :: u197 :: u198 :: u199 :: u200 :: u201 :: u202 :: u203 :: u204 :: u205 :: u206 :: u207 :: u208 :: u209 :: []), []⟩ wz := by
  have HK := Lib.hid hK
  clear hK
  conv => arg 2; whnf
  obtain ⟨b, p, s, cl, x, g, h, q, H, rfl, h1, h2, h3, h4, h5⟩ := HI.out
  have HH := Lib.hid H
  subst hkk
  have hP := di_pow (H.below (Below.refl wz.heap.size wz).drew) nn h1 hn1 hn2 h4 h5
  have hP2 := di_pow2 (H.below (Below.refl wz.heap.size wz).drew) nn h1 hn1 hn2 h4 h5
  generalize hxv : x.val = xv at *
  have HP := Lib.hid (hP.more (show B ≤ B + 306 by omega))
  have HP2 := Lib.hid (hP2.more (show B ≤ B + 306 by omega))
  obtain ⟨v, _, hD, _⟩ := H.pd
  obtain ⟨v2, _, hE, _⟩ := H.rd
  have t2 := HT.out.cell 2 (.int .i64 nn) rfl
  have d1 := hD.cell 1 (.int .i64 p) rfl
  have f1 := hD.frozen 1
  have e1 := hE.cell 1 (.int .i64 p) rfl
  have z1 := hE.frozen 1
  have hDE : D ≠ E := by rintro rfl; exact absurd (blk_ne hD hE) (by decide)
  have hTD : T ≠ D := by rintro rfl; exact absurd (blk_ne hD HT.out) (by decide)
  have hTE : T ≠ E := by rintro rfl; exact absurd (blk_ne hE HT.out) (by decide)
  clear H hP hP2 hxv hD hE
  go_upto_region 29 with fail
  go_region
  all_goals
    go_wp2_with fail
    first
    | exact HK.out _ xv _ _ _ _ _ _ _ _ _ _ _ _ _ _ _ _ _ _ _ _ _ _ _ _ _ _ _ _ _ _ _ _ _ _ _ _ _ _ _ _ _ _ _ _ _ _ _ _ _ _ _ _ _ _ _ _ _ _ _ _ _ _ _ _ _ _ _ _ _ _ _ _ _ _ _ _ _ _ _ _ _ _ _ _ _ _ _ _ _ _ _ _ _ _ _ _ _ _ _ _ _ _ _ _ _ _ _ _ _ _ _ _ _ _ _ _ _ _ _ _ _ _ _ _ _ _ _ _ _ _ _ _ HP
    | exact HK.out _ xv _ _ _ _ _ _ _ _ _ _ _ _ _ _ _ _ _ _ _ _ _ _ _ _ _ _ _ _ _ _ _ _ _ _ _ _ _ _ _ _ _ _ _ _ _ _ _ _ _ _ _ _ _ _ _ _ _ _ _ _ _ _ _ _ _ _ _ _ _ _ _ _ _ _ _ _ _ _ _ _ _ _ _ _ _ _ _ _ _ _ _ _ _ _ _ _ _ _ _ _ _ _ _ _ _ _ _ _ _ _ _ _ _ _ _ _ _ _ _ _ _ _ _ _ _ _ _ _ _ _ _ _ HP2
end Go.Proofs.YtandanbojfdfjaaDoor
