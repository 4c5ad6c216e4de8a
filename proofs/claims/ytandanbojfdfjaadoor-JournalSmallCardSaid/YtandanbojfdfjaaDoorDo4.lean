import Derived.Test.YtandanbojfdfjaaDoorDo3
import Derived.Test.YtandanbojfdfjaaDoorDo22
namespace Go.Proofs.YtandanbojfdfjaaDoor
open Go.ChangeShapes Go.WideShapes Go.ChangeAt Go.RowKit

theorem openR_bd {b b' : Bs} {p p' : Int} {o : Option St} {n : Nat} (h : openR b p = (o, n, b', p')) (h2 : -(2^63) ≤ p) (h3 : p < 2^63) : b'.length ≤ b.length ∧ (-(2^63) ≤ p' ∧ p' < 2^63) ∧ (∀ s, o = some s → s.last < 9973 ∧ s.size ≤ b.length ∧ s.recs.length ≤ b.length ∧ n = 0) ∧ (o = none → n ≠ 0) := by
  have hc := cutR_bd (t := (scanS b).2) (n := (scanS b).1.size) (b := b) h2 h3
  have hq : (cutR (scanS b).2 b p (scanS b).1.size).1 = 0 ∨ (cutR (scanS b).2 b p (scanS b).1.size).1 ≠ 0 := by omega
  unfold openR at h
  by_cases a : 1048576 < b.length
  · rw [if_pos a] at h
    obtain ⟨rfl, rfl, rfl, rfl⟩ : none = o ∧ 3 = n ∧ b = b' ∧ p = p' := by simpa using h
    exact ⟨Nat.le_refl _, ⟨h2, h3⟩, (fun _ e => by cases e), fun _ => by decide⟩
  · rw [if_neg a] at h
    by_cases c : (scanS b).2 = 2
    · rw [if_pos c] at h
      obtain ⟨rfl, rfl, rfl, rfl⟩ : none = o ∧ 421 = n ∧ b = b' ∧ p = p' := by simpa using h
      exact ⟨Nat.le_refl _, ⟨h2, h3⟩, (fun _ e => by cases e), fun _ => by decide⟩
    · rw [if_neg c] at h
      rcases hq with d | d
      · rw [if_pos d] at h
        simp only [Prod.mk.injEq] at h
        obtain ⟨rfl, rfl, e⟩ := h
        rw [e] at hc
        exact ⟨hc.1, hc.2, (fun s hs => by obtain rfl := Option.some.inj hs; exact ⟨scan_last b, scan_size b, scan_recs b, rfl⟩), fun e => by cases e⟩
      · rw [if_neg d] at h
        obtain ⟨rfl, rfl, rfl, rfl⟩ : none = o ∧ 420 = n ∧ b = b' ∧ p = p' := by simpa using h
        exact ⟨Nat.le_refl _, ⟨h2, h3⟩, (fun _ e => by cases e), fun _ => by decide⟩
section
variable {w0 w w1 w2 w3 w4 : World} {D E Y B : Nat} {b b' : Bs} {p p' : Int} {s : St} {cl : Bool} {x : Opn} {g h q : Option Nat}
theorem di_open_none {n : Nat} {e1 : Ending} (H : DS w0 w D E Y b p s cl b p s cl x g h q) (ha : OpenP w D (none, n, b', p') e1 w1) : e1 = .returned (.tuple #[.pointer none, .int .i64 n]) ∧ ∃ g', DS w0 w1 D E Y b' p' ⟨[], 0, 0⟩ false b p s cl none g' h q := by
  obtain ⟨hd, ⟨hk, hn⟩, he⟩ := ha
  obtain ⟨g', hp, fg⟩ := H.pd.of_new hd hn
  exact ⟨he, g', H.prog (hk.mono fun k _ e => .inl e) hp ⟨rfl, rfl⟩ fg (fun k hk' => by cases hk')⟩
theorem di_open_some {s' : St} {n : Nat} {e1 : Ending} (H : DS w0 w D E Y b p s cl b p s cl x g h q) (ha : OpenP w D (some s', n, b', p') e1 w1) (hl : s'.last < 9973) : ∃ L rb, e1 = .returned (.tuple #[.pointer (some ⟨L, 0, none⟩), .int .i64 0]) ∧ ∃ g', DS w0 w1 D E Y b' p' s' false b p s cl (some (L, w.heap.size, rb)) g' h q := by
  obtain ⟨hd, ⟨hk, hn⟩, L, rb, he, hlg, hL⟩ := ha
  obtain ⟨g', hp, fg⟩ := H.pd.of_new hd hn
  refine ⟨L, rb, he, g', H.prog (hk.mono fun k _ e => .inl e) hp ⟨hlg, H.bel.size, hk.size, Nat.le_trans H.bel.size hL, hl⟩ fg (fun k hk' => .inr (hlg.ge k hk'))⟩
theorem row_base {w : World} {base base' : Nat} {e : TypeId} {size n : Nat} {v : Value} {xs : List Value} (h : w.ownsRow base e size v n xs) (hb : base' ≤ base) : w.ownsRow base' e size v n xs := by
  refine ⟨h.1, ?_⟩
  rcases h.2 with hh | ⟨g, cap, cur, hv, hg, rest⟩
  · exact .inl hh
  · exact .inr ⟨g, cap, cur, hv, Nat.le_trans hb hg, rest⟩
theorem di_open {s' : St} {v : Value} (H1 : DS w0 w1 D E Y b' p' s' false b p s cl x g h q) (hd2 : RDk w2 E b' p') (hk2 : Kp w1 w2 (fun k => k = E)) (hn2 : NewB w1 w2 E) (hrow : w2.ownsRow w1.heap.size 9 1 v s'.recs.length (scs s'.recs)) (hb3 : Below w2.heap.size w2 w3) (hk4 : Kp w3 w4 (fun k => k = Y)) (hY4 : Blk w4 Y 77 (rl v s'.last s'.size false))
    (h1 : b'.length ≤ B) (h2 : -(2^63) ≤ p') (h3 : p' < 2^63) (h4 : s'.size ≤ B) (h5 : s'.recs.length ≤ B) : DI w0 w4 D E Y x.val B := by
  obtain ⟨cy, hY⟩ := H1.rl.blk
  obtain ⟨h', hr, fh⟩ := H1.rd.of_new hd2 hn2
  have hY2 := hk2.blk hY (fun e => by obtain ⟨c', hc'⟩ := H1.rd.blk; subst e; exact absurd (blk_ne hY hc') (by decide))
  have hY3 := hY2.below hb3
  have hr4 := (hr.below hb3).kp hk4 (fun e => by obtain ⟨c', hc'⟩ := (hr.below hb3).blk; subst e; exact absurd (blk_ne hY3 hc') (by decide)) (fun k hk' e => by subst e; obtain ⟨c', hc'⟩ := (hr.below hb3).gblk _ hk'; exact absurd (blk_ne hY3 hc') (by decide))
  have hrow3 := ownsRow_later hrow hb3
  have hrow4 := hk4.row hrow3 (fun k hk' e => row_ne hY3 hrow3 (show (9 : TypeId) ≠ 77 by decide) (e ▸ hk'))
  have H2 := H1.ref (((hk2.mono fun k _ e => .inl e).trans (Kp.of_below hb3 _)).trans (hk4.mono fun k _ e => .inr (.inl e))) hr4 ⟨v, rfl, hY4, row_base hrow4 H1.bel.size⟩ (fun k hk' => by
    rcases fh with rfl | f
    · exact .inl hk'
    · exact .inr (f k hk')) (fun k hk' => .inr (row_ge hrow k hk'))
  exact ⟨b', p', s', false, x, g, h', v.ownBlock, H2, rfl, h1, h2, h3, h4, h5⟩
end
set_option maxRecDepth 1000000 in
set_option maxHeartbeats 16000000 in
theorem do_B (K : Act → World → Prop) (Q0 : Exit → Act → World → Prop) (hQp : ∀ d v c a w, Q0 (.panic c) (Act.put a (some d) v) w → Q0 (.panic c) a w) (w0 wz : World) (D E Y T B kk : Nat) (kd nn : Int) (t : ByteArray) (xv : Value) (ht : t.size ≤ 300) (hB : B ≤ 1000000) (hn1 : -(2^63) ≤ nn) (hn2 : nn < 2^63) (HI : Hid (DI w0 wz D E Y xv B)) (HTb : Hid (Tb w0)) (HT : Hid (Blk wz T 54 #[.int .u8 kd, .string t, .int .i64 nn])) (hkk : kk = 4)
    (u0 u1 u2 u3 u4 u5 u6 u11 u13 u14 u15 u16 u17 u18 u19 u20 u21 u22 u23 u24 u25 u26 u27 u28 u29 u30 u31 u32 u33 u34 u35 u36 u37 u38 u39 u40 u41 u42 u44 u45 u46 u47 u48 u49 u50 u51 u52 u53 u54 u55 u56 u57 u58 u59 u60 u61 u62 u63 u64 u65 u66 u67 u68 u69 u70 u71 u72 u73 u74 u75 u76 u77 u78 u79 u80 u81 u82 u83 u84 u85 u86 u87 u88 u89 u90 u91 u92 u93 u94 u95 u96 u97 u98 u99 u100 u101 u102 u103 u104 u105 u106 u107 u108 u109 u110 u111 u112 u113 u114 u115 u116 u117 u118 u119 u120 u121 u122 u123 u124 u125 u126 u127 u128 u129 u130 u131 u132 u133 u134 u135 u136 u137 u138 u139 u140 u141 u142 u143 u144 u145 u146 u147 u148 u149 u150 u151 u152 u153 u154 u155 u156 u157 u158 u159 u160 u161 u162 u163 u164 u165 u166 u167 u168 u169 u170 u171 u172 u173 u174 u175 u176 u177 u178 u179 u180 u181 u182 u183 u184 u185 u186 u187 u188 u189 u190 u191 u192 u193 u194 u195 u196 u197 u198 u199 u200 u201 u202 u203 u204 u205 u206 u207 u208 u209 : Value)
    (hK : ∀ (x6 x9 x13 x14 x15 x16 x17 x18 x19 x20 x21 x22 x44 x45 x46 x47 x48 x49 x50 x51 x52 x53 x54 x55 x56 x57 x58 x59 x60 x61 x62 x63 x64 x65 x66 x67 x68 x69 x70 x71 x72 x73 x74 x75 x76 x77 x78 x79 x80 x81 x82 x83 x84 x85 x86 x87 x88 x89 x90 x91 x92 x93 x94 x95 x96 x97 x98 x99 x100 x101 x102 x103 x104 x105 x106 x107 x108 x109 x110 x111 x112 x113 x114 x115 x116 x117 x118 x119 x120 x121 x122 x123 x124 x125 x126 x127 x128 x129 x130 x131 x132 x133 x134 x135 x136 x137 x138 x139 x140 x141 x142 x143 x144 x145 x146 x147 x148 x149 x150 x151 x152 x153 x154 x155 x156 x157 x158 x159 x160 x161 x162 x163 x164 : Value) (wx : World), Hid (DI w0 wx D E Y x9 (B + 306)) → K ⟨List.toArray (u0 :: u1 :: u2 :: u3 :: u4 :: u5 :: (x6) :: (.pointer (some ⟨D, 0, none⟩)) :: (.pointer (some ⟨E, 0, none⟩)) :: (x9) :: (.pointer (some ⟨Y, 0, none⟩)) :: u11 :: (.pointer (some ⟨T, 0, none⟩)) :: (x13) :: (x14) :: (x15) :: (x16) :: (x17) :: (x18) :: (x19) :: (x20) :: (x21) :: (x22) :: u23 :: u24 :: u25 :: u26 :: u27 :: u28 :: u29 :: u30 :: u31 :: u32 :: u33 :: u34 :: u35 :: u36 :: u37 :: u38 :: u39 :: u40 :: u41 :: u42 :: (.int .u8 (kk : Int)) :: (x44) :: (x45) :: (x46) :: (x47) :: (x48) :: (x49) :: (x50) :: (x51) :: (x52) :: (x53) :: (x54) :: (x55) :: (x56) :: (x57) :: (x58) :: (x59) :: (x60) :: (x61) :: (x62) :: (x63) :: (x64) :: (x65) :: (x66) :: (x67) :: (x68) :: (x69) :: (x70) :: (x71) :: (x72) :: (x73) :: (x74) :: (x75) :: (x76) :: (x77) :: (x78) :: (x79) :: (x80) :: (x81) :: (x82) :: (x83) :: (x84) :: (x85) :: (x86) :: (x87) :: (x88) :: (x89) :: (x90) :: (x91) :: (x92) :: (x93) :: (x94) :: (x95) :: (x96) :: (x97) :: (x98) :: (x99) :: (x100) :: (x101) :: (x102) :: (x103) :: (x104) :: (x105) :: (x106) :: (x107) :: (x108) :: (x109) :: (x110) :: (x111) :: (x112) :: (x113) :: (x114) :: (x115) :: (x116) :: (x117) :: (x118) :: (x119) :: (x120) :: (x121) :: (x122) :: (x123) :: (x124) :: (x125) :: (x126) :: (x127) :: (x128) :: (x129) :: (x130) :: (x131) :: (x132) :: (x133) :: (x134) :: (x135) :: (x136) :: (x137) :: (x138) :: (x139) :: (x140) :: (x141) :: (x142) :: (x143) :: (x144) :: (x145) :: (x146) :: (x147) :: (x148) :: (x149) :: (x150) :: (x151) :: (x152) :: (x153) :: (x154) :: (x155) :: (x156) :: (x157) :: (x158) :: (x159) :: (x160) :: (x161) :: (x162) :: (x163) :: (x164) :: u165 :: u166 :: u167 :: u168 :: u169 :: u170 :: u171 :: u172 :: u173 :: u174 :: u175 :: u176 :: u177 :: u178 :: u179 :: u180 :: u181 :: u182 :: u183 :: u184 :: u185 :: u186 :: u187 :: u188 :: u189 :: u190 :: u191 :: u192 :: u193 :: u194 :: u195 :: u196 :: u197 :: u198 :: u199 :: u200 :: u201 :: u202 :: u203 :: u204 :: u205 :: u206 :: u207 :: u208 :: u209 :: []), []⟩ wx) :
    doB.wp Tryd.prog (Exit.then K Q0) ⟨List.toArray (u0 :: u1 :: u2 :: u3 :: u4 :: u5 :: u6 :: (.pointer (some ⟨D, 0, none⟩)) :: (.pointer (some ⟨E, 0, none⟩)) :: (xv) :: (.pointer (some ⟨Y, 0, none⟩)) :: u11 :: (.pointer (some ⟨T, 0, none⟩)) :: u13 :: u14 :: u15 :: u16 :: u17 :: u18 :: u19 :: u20 :: u21 :: u22 :: u23 :: u24 :: u25 :: u26 :: u27 :: u28 :: u29 :: u30 :: u31 :: u32 :: u33 :: u34 :: u35 :: u36 :: u37 :: u38 :: u39 :: u40 :: u41 :: u42 :: (.int .u8 (kk : Int)) :: u44 :: u45 :: u46 :: u47 :: u48 :: u49 :: u50 :: u51 :: u52 :: u53 :: u54 :: u55 :: u56 :: u57 :: u58 :: u59 :: u60 :: u61 :: u62 :: u63 :: u64 :: u65 :: u66 :: u67 :: u68 :: u69 :: u70 :: u71 :: u72 :: u73 :: u74 :: u75 :: u76 :: u77 :: u78 :: u79 :: u80 :: u81 :: u82 :: u83 :: u84 :: u85 :: u86 :: u87 :: u88 :: u89 :: u90 :: u91 :: u92 :: u93 :: u94 :: u95 :: u96 :: u97 :: u98 :: u99 :: u100 :: u101 :: u102 :: u103 :: u104 :: u105 :: u106 :: u107 :: u108 :: u109 :: u110 :: u111 :: u112 :: u113 :: u114 :: u115 :: u116 :: u117 :: u118 :: u119 :: u120 :: u121 :: u122 :: u123 :: u124 :: u125 :: u126 :: u127 :: u128 :: u129 :: u130 :: u131 :: u132 :: u133 :: u134 :: u135 :: u136 :: u137 :: u138 :: u139 :: u140 :: u141 :: u142 :: u143 :: u144 :: u145 :: u146 :: u147 :: u148 :: u149 :: u150 :: u151 :: u152 :: u153 :: u154 :: u155 :: u156 :: u157 :: u158 :: u159 :: u160 :: u161 :: u162 :: u163 :: u164 :: u165 :: u166 :: u167 :: u168 :: u169 :: u170 :: u171 :: u172 :: u173 :: u174 :: u175 :: u176 :: u177 :: u178 :: u179 :: u180 :: u181 :: u182 :: u183 :: u184 :: u185 :: u186 :: u187 :: u188 :: u189 :: u190 :: u191 :: u192 :: u193 :: u194 :: u195 :: u196 :: u197 :: u198 :: u199 :: u200 :: u201 :: u202 :: u203 :: u204 :: u205 :: u206 :: u207 :: u208 :: u209 :: []), []⟩ wz := by
  have HK := Lib.hid hK
  clear hK
  conv => arg 2; whnf
  obtain ⟨b, p, s, cl, x, g, h, q, H, rfl, h1, h2, h3, h4, h5⟩ := HI.out
  have HH := Lib.hid H
  subst hkk
  have HP := Lib.hid (open_any D b p wz H.pd.at (by omega) h2 h3 (HTb.out.below H.bel HTb.out.lt))
  have HRD : ∀ w1, Kp wz w1 (fun k => k = D) → Hid (Calls Tryd.prog 45 #[.pointer (some ⟨E, 0, none⟩)] w1 (OpenQP w1 E (openR b p))) := fun w1 hk1 => Lib.hid (Open_ref E b p w1 (HH.out.rd.at.kp hk1 (fun e => by obtain ⟨c, hc⟩ := HH.out.rd.blk; obtain ⟨c', hc'⟩ := HH.out.pd.blk; subst e; exact absurd (blk_ne hc hc') (by decide)) (fun k cs hb e => by obtain ⟨c', hc'⟩ := HH.out.pd.blk; subst e; exact absurd (blk_ne hb hc') (by decide))) (by omega) h2 h3)
  clear H
  generalize hxv : x.val = xv at *
  clear hxv
  obtain ⟨o, n, b', p', hop⟩ : ∃ o n b' p', openR b p = (o, n, b', p') := ⟨_, _, _, _, rfl⟩
  have hbd := openR_bd hop h2 h3
  rw [hop] at HP HRD
  have HBd := Lib.hid hbd
  clear hop hbd
  rcases o with _ | s'
  · have hn0 := HBd.out.2.2.2 rfl
    have hnb : ((n : Int) == 0) = false := by rw [beq_eq_false_iff_ne]; omega
    have hnn : ((n : Int) != (n : Int)) = false := by simp
    go_wp2_with fail
    refine HP.out.mono ?_
    intro e w1 hq1
    obtain ⟨rfl, g', hD1⟩ := di_open_none HH.out hq1
    have HD1 := Lib.hid hD1
    have HR := HRD w1 hq1.2.1.1
    clear hq1 hD1 HP HRD
    go_wp2_with fail
    refine HR.out.mono ?_
    rintro e w2 ⟨hd2, ⟨hk2, hn2⟩, rfl⟩
    have HD2 := Lib.hid (And.intro hd2 (And.intro hk2 (And.intro hn2 (World.ownsRow_nil w2 w1.heap.size 9 1))))
    clear hd2 hk2 hn2 HR
    have hb3 := below_alloc w2 (.cells (rl (.slice none 0 0) 0 0 false) 77)
    have hM := Blk.new w2 (rl (.slice none 0 0) 0 0 false) 77
    obtain ⟨vy, _, hYb, hYr⟩ := HD1.out.rl
    have hY2 := HD2.out.2.1.blk hYb (fun e => by obtain ⟨c', hc'⟩ := HD1.out.rd.blk; subst e; exact absurd (blk_ne hYb hc') (by decide))
    have hY3 := hY2.below hb3
    have HB3 := Lib.hid hb3
    have HM := Lib.hid hM
    have HY3 := Lib.hid hY3
    clear hb3 hM hYb hYr hY2 hY3
    go_upto_region 22 with fail
    refine do_22 (Exit.inBlock 2 (Exit.then K Q0)) (fun _ _ _ _ _ h => hQp _ _ _ _ _ h) (w2.alloc (.cells (rl (.slice none 0 0) 0 0 false) 77)) Y w2.heap.size (.pointer none) _ _ HM.out HY3.out rfl rfl (by kernel_rfl) _ _ _ _ _ _ _ _ _ _ _ _ _ _ _ _ _ _ _ _ _ _ _ _ _ _ _ _ _ _ _ _ _ _ _ _ _ _ _ _ _ _ _ _ _ _ _ _ _ _ _ _ _ _ _ _ _ _ _ _ _ _ _ _ _ _ _ _ _ _ _ _ _ _ _ _ _ _ _ _ _ _ _ _ _ _ _ _ _ _ _ _ _ _ _ _ _ _ _ _ _ _ _ _ _ _ _ _ _ _ _ _ _ _ _ _ _ _ _ _ _ _ _ _ _ _ _ _ _ _ _ _ _ _ _ _ _ _ _ _ _ _ _ _ _ _ _ _ _ _ _ _ _ _ _ _ _ _ _ _ _ _ _ _ _ _ _ _ _ _ _ _ _ _ _ _ _ _ _ _ _ _ _ _ _ _ _ _ _ _ _ _ _ _ _ _ _ _ _ _ _ _ _ _ _ _ _ ?_
    intro y83 y84 wx hwx
    have hdr : Below (w2.alloc (.cells (rl (.slice none 0 0) 0 0 false) 77)).heap.size _ (w2.alloc (.cells (rl (.slice none 0 0) 0 0 false) 77)).drew := (Below.refl _ _).drew
    have hb4 := HB3.out.trans (hdr.mono HB3.out.size)
    have hYd := HY3.out.below hdr
    have hDI := di_open HD1.out HD2.out.1 HD2.out.2.1 HD2.out.2.2.1 HD2.out.2.2.2 hb4 (Kp.setRow _ Y (rl (.slice none 0 0) 0 0 false)) (hYd.setRow (rl (.slice none 0 0) 0 0 false)) (B := B + 306) (by have := HBd.out.1; omega) HBd.out.2.1.1 HBd.out.2.1.2 (Nat.zero_le _) (Nat.zero_le _)
    rw [← hwx] at hDI
    have HDI := Lib.hid hDI
    clear hwx hdr hb4 hYd hDI
    go_wp2_with fail
    exact HK.out _ (.pointer none) _ _ _ _ _ _ _ _ _ _ _ _ _ _ _ _ _ _ _ _ _ _ _ _ _ _ _ _ _ _ _ _ _ _ _ _ _ _ _ _ _ _ _ _ _ _ _ _ _ _ _ _ _ _ _ _ _ _ _ _ _ _ _ _ _ _ _ _ _ _ _ _ _ _ _ _ _ _ _ _ _ _ _ _ _ _ _ _ _ _ _ _ _ _ _ _ _ _ _ _ _ _ _ _ _ _ _ _ _ _ _ _ _ _ _ _ _ _ _ _ _ _ _ _ _ _ _ _ _ _ _ _ (HDI)
  · obtain ⟨hsl, hsz, hsr, hn0⟩ := HBd.out.2.2.1 s' rfl
    have HSl := Lib.hid (And.intro hsl (And.intro hsz hsr))
    subst hn0
    clear hsl hsz hsr
    go_wp2_with fail
    refine HP.out.mono ?_
    intro e w1 hq1
    obtain ⟨L, rb, rfl, g', hD1⟩ := di_open_some HH.out hq1 HSl.out.1
    have HD1 := Lib.hid hD1
    have HR := HRD w1 hq1.2.1.1
    clear hq1 hD1 HP HRD
    go_wp2_with fail
    refine HR.out.mono ?_
    rintro e w2 ⟨hd2, ⟨hk2, hn2⟩, v5, rfl, hrow5⟩
    obtain ⟨A5, c5, rfl, _⟩ := row_rd hrow5
    have HD2 := Lib.hid (And.intro hd2 (And.intro hk2 (And.intro hn2 hrow5)))
    clear hd2 hk2 hn2 hrow5 HR
    have hb3 := below_alloc w2 (.cells (rl (.slice A5 s'.recs.length c5) s'.last s'.size false) 77)
    have hM := Blk.new w2 (rl (.slice A5 s'.recs.length c5) s'.last s'.size false) 77
    obtain ⟨vy, _, hYb, hYr⟩ := HD1.out.rl
    have hY2 := HD2.out.2.1.blk hYb (fun e => by obtain ⟨c', hc'⟩ := HD1.out.rd.blk; subst e; exact absurd (blk_ne hYb hc') (by decide))
    have hY3 := hY2.below hb3
    have HB3 := Lib.hid hb3
    have HM := Lib.hid hM
    have HY3 := Lib.hid hY3
    clear hb3 hM hYb hYr hY2 hY3
    go_upto_region 22 with fail
    refine do_22 (Exit.inBlock 2 (Exit.then K Q0)) (fun _ _ _ _ _ h => hQp _ _ _ _ _ h) (w2.alloc (.cells (rl (.slice A5 s'.recs.length c5) s'.last s'.size false) 77)) Y w2.heap.size (.pointer (some ⟨L, 0, none⟩)) _ _ HM.out HY3.out rfl rfl (by kernel_rfl) _ _ _ _ _ _ _ _ _ _ _ _ _ _ _ _ _ _ _ _ _ _ _ _ _ _ _ _ _ _ _ _ _ _ _ _ _ _ _ _ _ _ _ _ _ _ _ _ _ _ _ _ _ _ _ _ _ _ _ _ _ _ _ _ _ _ _ _ _ _ _ _ _ _ _ _ _ _ _ _ _ _ _ _ _ _ _ _ _ _ _ _ _ _ _ _ _ _ _ _ _ _ _ _ _ _ _ _ _ _ _ _ _ _ _ _ _ _ _ _ _ _ _ _ _ _ _ _ _ _ _ _ _ _ _ _ _ _ _ _ _ _ _ _ _ _ _ _ _ _ _ _ _ _ _ _ _ _ _ _ _ _ _ _ _ _ _ _ _ _ _ _ _ _ _ _ _ _ _ _ _ _ _ _ _ _ _ _ _ _ _ _ _ _ _ _ _ _ _ _ _ _ _ _ _ _ _ ?_
    intro y83 y84 wx hwx
    have hdr : Below (w2.alloc (.cells (rl (.slice A5 s'.recs.length c5) s'.last s'.size false) 77)).heap.size _ (w2.alloc (.cells (rl (.slice A5 s'.recs.length c5) s'.last s'.size false) 77)).drew := (Below.refl _ _).drew
    have hb4 := HB3.out.trans (hdr.mono HB3.out.size)
    have hYd := HY3.out.below hdr
    have hDI := di_open HD1.out HD2.out.1 HD2.out.2.1 HD2.out.2.2.1 HD2.out.2.2.2 hb4 (Kp.setRow _ Y (rl (.slice A5 s'.recs.length c5) s'.last s'.size false)) (hYd.setRow (rl (.slice A5 s'.recs.length c5) s'.last s'.size false)) (B := B + 306) (by have := HBd.out.1; omega) HBd.out.2.1.1 HBd.out.2.1.2 (by have := HSl.out.2.1; omega) (by have := HSl.out.2.2; omega)
    rw [← hwx] at hDI
    have HDI := Lib.hid hDI
    clear hwx hdr hb4 hYd hDI
    go_wp2_with fail
    exact HK.out _ (.pointer (some ⟨L, 0, none⟩)) _ _ _ _ _ _ _ _ _ _ _ _ _ _ _ _ _ _ _ _ _ _ _ _ _ _ _ _ _ _ _ _ _ _ _ _ _ _ _ _ _ _ _ _ _ _ _ _ _ _ _ _ _ _ _ _ _ _ _ _ _ _ _ _ _ _ _ _ _ _ _ _ _ _ _ _ _ _ _ _ _ _ _ _ _ _ _ _ _ _ _ _ _ _ _ _ _ _ _ _ _ _ _ _ _ _ _ _ _ _ _ _ _ _ _ _ _ _ _ _ _ _ _ _ _ _ _ _ _ _ _ _ (HDI)
end Go.Proofs.YtandanbojfdfjaaDoor
