import Derived.Test.YtandanbojfdfjaaDoorDo4
import Derived.Test.YtandanbojfdfjaaDoorDo33
namespace Go.Proofs.YtandanbojfdfjaaDoor
open Go.ChangeShapes Go.WideShapes Go.ChangeAt Go.RowKit

theorem By.setAt {w : World} {g o n c : Nat} {b : Bs} {cs : Array Value} (hB : Blk w g 5 cs) (hn : n = b.length) (hc : b.length ≤ c) (hr : ∀ j u, (bcs b)[j]? = some u → cs[o + j]? = some u) (hz : o + c ≤ cs.size) {i : Nat} (hi : i < b.length) (ch : UInt8) :
    By (w.setCell ⟨g, o + i, none⟩ (.int .u8 (ch.toNat : Int))) (.slice (some ⟨g, o, none⟩) n c) (b.set i ch) := by
  subst hn
  refine .inr ⟨g, o, c, _, by rw [List.length_set], hB.set (o + i) (.int .u8 (ch.toNat : Int)), by rw [List.length_set]; exact hc, fun j u hu => ?_, by simpa using hz⟩
  rw [show bcs (b.set i ch) = (bcs b).set i (.int .u8 (ch.toNat : Int)) by rw [bcs, bcs, List.map_set]] at hu
  by_cases hj : i = j
  · subst hj
    rw [List.getElem?_set_self (by simpa using hi)] at hu
    rw [Array.getElem?_setIfInBounds_self_of_lt (by omega)]
    exact hu
  · rw [List.getElem?_set_ne hj] at hu
    rw [Array.getElem?_setIfInBounds_ne (by omega)]
    exact hr j u hu
theorem di_store {w0 w : World} {D E Y B gd od ge oe c1 c2 i : Nat} {b : Bs} {p : Int} {s : St} {cl : Bool} {x : Opn} {g h q : Option Nat} {cs1 cs2 : Array Value} (H : DS w0 w D E Y b p s cl b p s cl x g h q) (ch : UInt8) (hi : i < b.length)
    (hD : Blk w D 28 (dsk (.slice (some ⟨gd, od, none⟩) b.length c1) p)) (hB1 : Blk w gd 5 cs1) (hc1 : b.length ≤ c1) (hr1 : ∀ j u, (bcs b)[j]? = some u → cs1[od + j]? = some u) (hz1 : od + c1 ≤ cs1.size) (hg : g = some gd)
    (hE : Blk w E 83 (dsk (.slice (some ⟨ge, oe, none⟩) b.length c2) p)) (hB2 : Blk w ge 5 cs2) (hc2 : b.length ≤ c2) (hr2 : ∀ j u, (bcs b)[j]? = some u → cs2[oe + j]? = some u) (hz2 : oe + c2 ≤ cs2.size) (hh : h = some ge)
    (h1 : b.length ≤ B) (h2 : -(2^63) ≤ p) (h3 : p < 2^63) (h4 : s.size ≤ B) (h5 : s.recs.length ≤ B) :
    DI w0 ((w.setCell ⟨gd, od + i, none⟩ (.int .u8 (ch.toNat : Int))).setCell ⟨ge, oe + i, none⟩ (.int .u8 (ch.toNat : Int))) D E Y x.val B := by
  subst hg hh
  have hne : gd ≠ ge := fun e => H.gh gd rfl (by rw [e])
  have hk1 := Kp.set w gd (od + i) (.int .u8 (ch.toNat : Int))
  have hk2 := Kp.set (w.setCell ⟨gd, od + i, none⟩ (.int .u8 (ch.toNat : Int))) ge (oe + i) (.int .u8 (ch.toNat : Int))
  have hkk : Kp w ((w.setCell ⟨gd, od + i, none⟩ (.int .u8 (ch.toNat : Int))).setCell ⟨ge, oe + i, none⟩ (.int .u8 (ch.toNat : Int))) (fun k => k = gd ∨ k = ge) := (hk1.mono fun k _ e => .inl e).trans (hk2.mono fun k _ e => .inr e)
  have hty : ∀ k t cs, Blk w k t cs → t ≠ 5 → ¬ (k = gd ∨ k = ge) := by
    rintro k t cs hb ht (e | e)
    · subst e; exact ht (blk_ne hb hB1)
    · subst e; exact ht (blk_ne hb hB2)
  have hb1 := By.setAt hB1 rfl hc1 hr1 hz1 hi ch
  have hB2' := hk1.blk hB2 (fun e => hne e.symm)
  have hb2 := By.setAt hB2' rfl hc2 hr2 hz2 hi ch
  obtain ⟨cy, hY⟩ := H.rl.blk
  refine ⟨b.set i ch, p, s, cl, x, some gd, some ge, q, ⟨⟨.slice (some ⟨gd, od, none⟩) b.length c1, rfl, ?_, ?_⟩, ⟨.slice (some ⟨ge, oe, none⟩) b.length c2, rfl, ?_, ?_⟩, H.rl.kp hkk (hty _ _ _ hY (by decide)) (fun k hk' => by obtain ⟨c, hc⟩ := H.rl.rblk k hk'; exact hty _ _ _ hc (by decide)), H.xl.kp hkk (fun k cs hb => hty _ _ _ hb (by decide)) (fun k hk' => by obtain ⟨c, hc⟩ := H.xl.rblk k hk'; exact hty _ _ _ hc (by decide)), hkk.below H.bel ?_, H.D0, H.E0, H.Y0, H.g0, H.h0, H.q0, H.gh, H.xq⟩, rfl, by rw [List.length_set]; exact h1, h2, h3, h4, h5⟩
  · exact hkk.blk hD (hty _ _ _ hD (by decide))
  · rcases hb1 with ⟨e, _⟩ | ⟨g', o', c', cs', e, hB, hc, hr⟩
    · cases e
    · obtain ⟨⟨rfl, rfl⟩, e2, rfl⟩ : (gd = g' ∧ od = o') ∧ b.length = (b.set i ch).length ∧ c1 = c' := by simpa using e
      exact .inr ⟨gd, od, c1, cs', by rw [← e2], hk2.blk hB (fun e => hne e), hc, hr⟩
  · exact hkk.blk hE (hty _ _ _ hE (by decide))
  · exact hb2
  · rintro k (e | e)
    · subst e; exact H.g0 _ rfl
    · subst e; exact H.h0 _ rfl
set_option maxRecDepth 1000000 in
set_option maxHeartbeats 16000000 in
theorem do_E (K : Act → World → Prop) (Q0 : Exit → Act → World → Prop) (hQp : ∀ d v c a w, Q0 (.panic c) (Act.put a (some d) v) w → Q0 (.panic c) a w) (w0 wz : World) (D E Y T B kk : Nat) (kd nn : Int) (t : ByteArray) (xv : Value) (ht : t.size ≤ 300) (hB : B ≤ 1000000) (hn1 : -(2^63) ≤ nn) (hn2 : nn < 2^63) (HI : Hid (DI w0 wz D E Y xv B)) (HTb : Hid (Tb w0)) (HT : Hid (Blk wz T 54 #[.int .u8 kd, .string t, .int .i64 nn])) (hkk : kk = 7)
    (u0 u1 u2 u3 u4 u5 u6 u11 u13 u14 u15 u16 u17 u18 u19 u20 u21 u22 u23 u24 u25 u26 u27 u28 u29 u30 u31 u32 u33 u34 u35 u36 u37 u38 u39 u40 u41 u42 u44 u45 u46 u47 u48 u49 u50 u51 u52 u53 u54 u55 u56 u57 u58 u59 u60 u61 u62 u63 u64 u65 u66 u67 u68 u69 u70 u71 u72 u73 u74 u75 u76 u77 u78 u79 u80 u81 u82 u83 u84 u85 u86 u87 u88 u89 u90 u91 u92 u93 u94 u95 u96 u97 u98 u99 u100 u101 u102 u103 u104 u105 u106 u107 u108 u109 u110 u111 u112 u113 u114 u115 u116 u117 u118 u119 u120 u121 u122 u123 u124 u125 u126 u127 u128 u129 u130 u131 u132 u133 u134 u135 u136 u137 u138 u139 u140 u141 u142 u143 u144 u145 u146 u147 u148 u149 u150 u151 u152 u153 u154 u155 u156 u157 u158 u159 u160 u161 u162 u163 u164 u165 u166 u167 u168 u169 u170 u171 u172 u173 u174 u175 u176 u177 u178 u179 u180 u181 u182 u183 u184 u185 u186 u187 u188 u189 u190 u191 u192 u193 u194 u195 u196 u197 u198 u199 u200 u201 u202 u203 u204 u205 u206 u207 u208 u209 : Value)
    (hK : ∀ (x6 x9 x13 x14 x15 x16 x17 x18 x19 x20 x21 x22 x44 x45 x46 x47 x48 x49 x50 x51 x52 x53 x54 x55 x56 x57 x58 x59 x60 x61 x62 x63 x64 x65 x66 x67 x68 x69 x70 x71 x72 x73 x74 x75 x76 x77 x78 x79 x80 x81 x82 x83 x84 x85 x86 x87 x88 x89 x90 x91 x92 x93 x94 x95 x96 x97 x98 x99 x100 x101 x102 x103 x104 x105 x106 x107 x108 x109 x110 x111 x112 x113 x114 x115 x116 x117 x118 x119 x120 x121 x122 x123 x124 x125 x126 x127 x128 x129 x130 x131 x132 x133 x134 x135 x136 x137 x138 x139 x140 x141 x142 x143 x144 x145 x146 x147 x148 x149 x150 x151 x152 x153 x154 x155 x156 x157 x158 x159 x160 x161 x162 x163 x164 : Value) (wx : World), Hid (DI w0 wx D E Y x9 (B + 306)) → K ⟨List.toArray (u0 :: u1 :: u2 :: u3 :: u4 :: u5 :: (x6) :: (.pointer (some ⟨D, 0, none⟩)) :: (.pointer (some ⟨E, 0, none⟩)) :: (x9) :: (.pointer (some ⟨Y, 0, none⟩)) :: u11 :: (.pointer (some ⟨T, 0, none⟩)) :: (x13) :: (x14) :: (x15) :: (x16) :: (x17) :: (x18) :: (x19) :: (x20) :: (x21) :: (x22) :: u23 :: u24 :: u25 :: u26 :: u27 :: u28 :: u29 :: u30 :: u31 :: u32 :: u33 :: u34 :: u35 :: u36 :: u37 :: u38 :: u39 :: u40 :: u41 :: u42 :: (.int .u8 (kk : Int)) :: (x44) :: (x45) :: (x46) :: (x47) :: (x48) :: (x49) :: (x50) :: (x51) :: (x52) :: (x53) :: (x54) :: (x55) :: (x56) :: (x57) :: (x58) :: (x59) :: (x60) :: (x61) :: (x62) :: (x63) :: (x64) :: (x65) :: (x66) :: (x67) :: (x68) :: (x69) :: (x70) :: (x71) :: (x72) :: (x73) :: (x74) :: (x75) :: (x76) :: (x77) :: (x78) :: (x79) :: (x80) :: (x81) :: (x82) :: (x83) :: (x84) :: (x85) :: (x86) :: (x87) :: (x88) :: (x89) :: (x90) :: (x91) :: (x92) :: (x93) :: (x94) :: (x95) :: (x96) :: (x97) :: (x98) :: (x99) :: (x100) :: (x101) :: (x102) :: (x103) :: (x104) :: (x105) :: (x106) :: (x107) :: (x108) :: (x109) :: (x110) :: (x111) :: (x112) :: (x113) :: (x114) :: (x115) :: (x116) :: (x117) :: (x118) :: (x119) :: (x120) :: (x121) :: (x122) :: (x123) :: (x124) :: (x125) :: (x126) :: (x127) :: (x128) :: (x129) :: (x130) :: (x131) :: (x132) :: (x133) :: (x134) :: (x135) :: (x136) :: (x137) :: (x138) :: (x139) :: (x140) :: (x141) :: (x142) :: (x143) :: (x144) :: (x145) :: (x146) :: (x147) :: (x148) :: (x149) :: (x150) :: (x151) :: (x152) :: (x153) :: (x154) :: (x155) :: (x156) :: (x157) :: (x158) :: (x159) :: (x160) :: (x161) :: (x162) :: (x163) :: (x164) :: u165 :: u166 :: u167 :: u168 :: u169 :: u170 :: u171 :: u172 :: u173 :: u174 :: u175 :: u176 :: u177 :: u178 :: u179 :: u180 :: u181 :: u182 :: u183 :: u184 :: u185 :: u186 :: u187 :: u188 :: u189 :: u190 :: u191 :: u192 :: u193 :: u194 :: u195 :: u196 :: u197 :: u198 :: u199 :: u200 :: u201 :: u202 :: u203 :: u204 :: u205 :: u206 :: u207 :: u208 :: u209 :: []), []⟩ wx) :
    doB.wp Tryd.prog (Exit.then K Q0) ⟨List.toArray (u0 :: u1 :: u2 :: u3 :: u4 :: u5 :: u6 :: (.pointer (some ⟨D, 0, none⟩)) :: (.pointer (some ⟨E, 0, none⟩)) :: (xv) :: (.pointer (some ⟨Y, 0, none⟩)) :: u11 :: (.pointer (some ⟨T, 0, none⟩)) :: u13 :: u14 :: u15 :: u16 :: u17 :: u18 :: u19 :: u20 :: u21 :: u22 :: u23 :: u24 :: u25 :: u26 :: u27 :: u28 :: u29 :: u30 :: u31 :: u32 :: u33 :: u34 :: u35 :: u36 :: u37 :: u38 :: u39 :: u40 :: u41 :: u42 :: (.int .u8 (kk : Int)) :: u44 :: u45 :: u46 :: u47 :: u48 :: u49 :: u50 :: u51 :: u52 :: u53 :: u54 :: u55 :: u56 :: u57 :: u58 :: u59 :: u60 :: u61 :: u62 :: u63 :: u64 :: u65 :: u66 :: u67 :: u68 :: u69 :: u70 :: u71 :: u72 :: u73 :: u74 :: u75 :: u76 :: u77 :: u78 :: u79 :: u80 :: u81 :: u82 :: u83 :: u84 :: u85 :: u86 :: u87 :: u88 :: u89 :: u90 :: u91 :: u92 :: u93 :: u94 :: u95 :: u96 :: u97 :: u98 :: u99 :: u100 :: u101 :: u102 :: u103 :: u104 :: u105 :: u106 :: u107 :: u108 :: u109 :: u110 :: u111 :: u112 :: u113 :: u114 :: u115 :: u116 :: u117 :: u118 :: u119 :: u120 :: u121 :: u122 :: u123 :: u124 :: u125 :: u126 :: u127 :: u128 :: u129 :: u130 :: u131 :: u132 :: u133 :: u134 :: u135 :: u136 :: u137 :: u138 :: u139 :: u140 :: u141 :: u142 :: u143 :: u144 :: u145 :: u146 :: u147 :: u148 :: u149 :: u150 :: u151 :: u152 :: u153 :: u154 :: u155 :: u156 :: u157 :: u158 :: u159 :: u160 :: u161 :: u162 :: u163 :: u164 :: u165 :: u166 :: u167 :: u168 :: u169 :: u170 :: u171 :: u172 :: u173 :: u174 :: u175 :: u176 :: u177 :: u178 :: u179 :: u180 :: u181 :: u182 :: u183 :: u184 :: u185 :: u186 :: u187 :: u188 :: u189 :: u190 :: u191 :: u192 :: u193 :: u194 :: u195 :: u196 :: u197 :: u198 :: u199 :: u200 :: u201 :: u202 :: u203 :: u204 :: u205 :: u206 :: u207 :: u208 :: u209 :: []), []⟩ wz := by
  have HK := Lib.hid hK
  clear hK
  conv => arg 2; whnf
  obtain ⟨b, p, s, cl, x, g, h, q, H, rfl, h1, h2, h3, h4, h5⟩ := HI.out
  have HH := Lib.hid H
  subst hkk
  obtain ⟨v1, hg1, hD, hB1⟩ := H.pd
  obtain ⟨v2, hg2, hE, hB2⟩ := H.rd
  obtain ⟨A2, c2, rfl, _⟩ := hB2.form
  have e0 := hE.cell 0 _ rfl
  generalize hxv : x.val = xv at *
  by_cases hb : b.length = 0
  · have hb0 : decide ((b.length : Int) > 0) = false := decide_eq_false (by omega)
    rw [hb] at e0
    clear H hD hB1 hE hB2 hxv hb0 hb
    go_wp2_with fail
    exact HK.out _ xv _ _ _ _ _ _ _ _ _ _ _ _ _ _ _ _ _ _ _ _ _ _ _ _ _ _ _ _ _ _ _ _ _ _ _ _ _ _ _ _ _ _ _ _ _ _ _ _ _ _ _ _ _ _ _ _ _ _ _ _ _ _ _ _ _ _ _ _ _ _ _ _ _ _ _ _ _ _ _ _ _ _ _ _ _ _ _ _ _ _ _ _ _ _ _ _ _ _ _ _ _ _ _ _ _ _ _ _ _ _ _ _ _ _ _ _ _ _ _ _ _ _ _ _ _ _ _ _ _ _ _ _ (Lib.hid (DI.more HI.out (by omega)))
  · have hb0 : decide ((b.length : Int) > 0) = true := decide_eq_true (by omega)
    have t2 := HT.out.cell 2 (.int .i64 nn) rfl
    have hTl := HT.out.lt
    obtain ⟨n, hn⟩ : ∃ n, b.length = n := ⟨_, rfl⟩
    rw [hn] at e0 hb0 hb
    have HN := Lib.hid hn
    have hnz : ¬ (n : Int) = 0 := by omega
    have hm1 : -(n : Int) < nn.tmod n ∧ nn.tmod n < n := ⟨by have e := Int.neg_tmod nn (n : Int); have l := Int.tmod_lt_of_pos (b := (n : Int)) (-nn) (by omega); omega, Int.tmod_lt_of_pos nn (by omega)⟩
    obtain ⟨m, hmm⟩ : ∃ m : Int, nn.tmod n = m := ⟨_, rfl⟩
    rw [hmm] at hm1
    have hw : IntKind.i64.wrap (m + (n : Int)) = m + (n : Int) := IntWalk.i64_in _ (by omega)
    obtain ⟨i, hi⟩ : ∃ i : Nat, (m + (n : Int)).tmod n = i := ⟨((m + (n : Int)).tmod n).toNat, by have := Int.tmod_nonneg (n : Int) (a := m + n) (by omega); omega⟩
    have hin : (i : Int) < n := by rw [← hi]; exact Int.tmod_lt_of_pos _ (by omega)
    have hm0 : 0 ≤ m + (n : Int) := by omega
    have hi2 : (m + (n : Int)) % n = i := by rw [← hi, Int.tmod_eq_emod_of_nonneg hm0]
    have HD0 := Lib.hid hD
    have HE0 := Lib.hid hE
    have HB1 := Lib.hid hB1
    have HB2 := Lib.hid hB2
    have HG := Lib.hid (And.intro hg1 hg2)
    have HXv := Lib.hid hxv
    clear H hD hB1 hE hB2 hn hxv hg1 hg2
    have hnl : n ≤ 1000000 := by have := HN.out; omega
    go_upto_region 32 with fail
    go_quiet (fail)
    go_upto_region 33 with fail
    obtain ⟨gd, od, c1, cs1, hv1, hBl1, hcc1, hr1, hz1⟩ := (by
      rcases HB1.out with ⟨_, hnil⟩ | hh
      · exact absurd (by rw [hnil]; rfl) (by have := HN.out; omega : ¬ b.length = 0)
      · exact hh : ∃ gd od c1 cs1, v1 = .slice (some ⟨gd, od, none⟩) b.length c1 ∧ Blk wz gd 5 cs1 ∧ b.length ≤ c1 ∧ (∀ j u, (bcs b)[j]? = some u → cs1[od + j]? = some u) ∧ od + c1 ≤ cs1.size)
    obtain ⟨ge, oe, c2', cs2, hv2, hBl2, hcc2, hr2, hz2⟩ := (by
      rcases HB2.out with ⟨_, hnil⟩ | hh
      · exact absurd (by rw [hnil]; rfl) (by have := HN.out; omega : ¬ b.length = 0)
      · exact hh : ∃ ge oe c2' cs2, Value.slice A2 b.length c2 = .slice (some ⟨ge, oe, none⟩) b.length c2' ∧ Blk wz ge 5 cs2 ∧ b.length ≤ c2' ∧ (∀ j u, (bcs b)[j]? = some u → cs2[oe + j]? = some u) ∧ oe + c2' ≤ cs2.size)
    subst hv1
    obtain ⟨rfl, rfl⟩ : A2 = some ⟨ge, oe, none⟩ ∧ c2 = c2' := by simpa using hv2
    have hni : i < b.length := by have := HN.out; omega
    have hbq : Below wz.heap.size wz (wz.drewN nq).drew := (below_drewN (Below.refl _ _) nq).drew
    have HH2 := HH.out.below hbq
    obtain ⟨ch, hch⟩ : ∃ ch : UInt8, IntKind.u8.wrap (nn / 256) = (ch.toNat : Int) := by
      refine ⟨UInt8.ofNat ((nn / 256) % 256).toNat, ?_⟩
      have e1 : IntKind.u8.wrap (nn / 256) = (nn / 256) % 256 := by simp [IntKind.wrap, IntKind.signed, IntKind.bits]
      have e2 : (UInt8.ofNat ((nn / 256) % 256).toNat).toNat = ((nn / 256) % 256).toNat % 256 := UInt8.toNat_ofNat'
      rw [e1, e2]
      omega
    have hHD := HD0.out.below hbq
    have hHE := HE0.out.below hbq
    have hQ1 := hBl1.below hbq
    have hQ2 := hBl2.below hbq
    have hQT := HT.out.below hbq
    have hgh : gd ≠ ge := fun e => HH.out.gh gd (by rw [← HG.out.1]; rfl) (by rw [← HG.out.2, e]; rfl)
    have hDI := di_store HH2 ch hni hHD hQ1 hcc1 hr1 hz1 HG.out.1.symm hHE hQ2 hcc2 hr2 hz2 HG.out.2.symm h1 h2 h3 h4 h5
    rw [HXv.out] at hDI
    have HDI := Lib.hid (hDI.more (show B ≤ B + 306 by omega))
    have hk1 := Kp.set (wz.drewN nq).drew gd (od + i) (.int .u8 (ch.toNat : Int))
    have hk2 := Kp.set ((wz.drewN nq).drew.setCell ⟨gd, od + i, none⟩ (.int .u8 (ch.toNat : Int))) ge (oe + i) (.int .u8 (ch.toNat : Int))
    have nD1 : ¬ D = gd := fun e => by subst e; exact absurd (blk_ne hHD hQ1) (by decide)
    have nE1 : ¬ E = gd := fun e => by subst e; exact absurd (blk_ne hHE hQ1) (by decide)
    have nT1 : ¬ T = gd := fun e => by subst e; exact absurd (blk_ne hQT hQ1) (by decide)
    have nD2 : ¬ D = ge := fun e => by subst e; exact absurd (blk_ne hHD hQ2) (by decide)
    have nE2 : ¬ E = ge := fun e => by subst e; exact absurd (blk_ne hHE hQ2) (by decide)
    have nT2 : ¬ T = ge := fun e => by subst e; exact absurd (blk_ne hQT hQ2) (by decide)
    have a1 := hk1.blk hHD nD1
    have a2 := hk1.blk hHE nE1
    have a3 := hk1.blk hQT nT1
    have a4 := hk1.blk hQ2 (fun e => hgh e.symm)
    have hud : ∃ ud, (wz.drewN nq).drew.cell? ⟨gd, od + i, none⟩ = some ud := ⟨_, hQ1.cell _ _ (hr1 i _ (by simp [hni]; rfl))⟩
    have hue : ∃ ue, ((wz.drewN nq).drew.setCell ⟨gd, od + i, none⟩ (.int .u8 (ch.toNat : Int))).cell? ⟨ge, oe + i, none⟩ = some ue := ⟨_, a4.cell _ _ (hr2 i _ (by simp [hni]; rfl))⟩
    obtain ⟨ud, hud⟩ := hud
    obtain ⟨ue, hue⟩ := hue
    have HP := Lib.hid (And.intro (And.intro (hHD.cell 0 _ rfl) (And.intro (hHE.cell 0 _ rfl) (hQT.cell 2 (.int .i64 nn) rfl))) (And.intro (And.intro (a1.cell 0 _ rfl) (And.intro (a2.cell 0 _ rfl) (a3.cell 2 (.int .i64 nn) rfl)))
      (And.intro ((hk2.blk a1 nD2).cell 0 _ rfl) (And.intro ((hk2.blk a2 nE2).cell 0 _ rfl) ((hk2.blk a3 nT2).cell 2 (.int .i64 nn) rfl)))))
    have f1 := hQ1.frozen (od + i)
    have f2 := a4.frozen (oe + i)
    have hnb := HN.out
    refine do_33 (Exit.inBlock 2 (Exit.then K Q0)) (fun _ _ _ _ _ h => hQp _ _ _ _ _ h) (wz.drewN nq) (wz.drewN nq).drew D E T gd od ge oe b.length c1 c2 i nn ch ud ue rfl hch hni HP.out.1 HP.out.2.1 HP.out.2.2 hud f1 hue f2 _ _ _ _ _ _ _ _ _ _ _ _ _ _ _ _ _ _ _ _ _ _ _ _ _ _ _ _ _ _ _ _ _ _ _ _ _ _ _ _ _ _ _ _ _ _ _ _ _ _ _ _ _ _ _ _ _ _ _ _ _ _ _ _ _ _ _ _ _ _ _ _ _ _ _ _ _ _ _ _ _ _ _ _ _ _ _ _ _ _ _ _ _ _ _ _ _ _ _ _ _ _ _ _ _ _ _ _ _ _ _ _ _ _ _ _ _ _ _ _ _ _ _ _ _ _ _ _ _ _ _ _ _ _ _ _ _ _ _ _ _ _ _ _ _ _ _ _ _ _ _ _ _ _ _ _ _ _ _ _ _ _ _ _ _ _ _ _ _ _ _ _ _ _ _ _ _ _ _ _ _ _ _ _ _ _ _ _ _ _ _ _ _ _ _ _ _ _ _ _ _ _ _ _ _ _ ?_
    intro y145 y146 y147 y148 y149 y150 y151 y152 y153 y154 y155 y156 y157 y158 y159 y160 y161 y162 y163 y164 wx hwx
    subst hwx
    clear hHD hHE hQ1 hQ2 hQT hDI hk1 hk2 a1 a2 a3 a4 hud hue f1 f2 HP HH2
    go_wp2_with fail
    exact HK.out _ xv _ _ _ _ _ _ _ _ _ _ _ _ _ _ _ _ _ _ _ _ _ _ _ _ _ _ _ _ _ _ _ _ _ _ _ _ _ _ _ _ _ _ _ _ _ _ _ _ _ _ _ _ _ _ _ _ _ _ _ _ _ _ _ _ _ _ _ _ _ _ _ _ _ _ _ _ _ _ _ _ _ _ _ _ _ _ _ _ _ _ _ _ _ _ _ _ _ _ _ _ _ _ _ _ _ _ _ _ _ _ _ _ _ _ _ _ _ _ _ _ _ _ _ _ _ _ _ _ _ _ _ _ (HDI)
end Go.Proofs.YtandanbojfdfjaaDoor
