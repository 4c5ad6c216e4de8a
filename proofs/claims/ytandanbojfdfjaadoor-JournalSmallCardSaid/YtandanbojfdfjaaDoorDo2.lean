import Derived.Test.YtandanbojfdfjaaDoorDo1
import Derived.BigRegion
namespace Go.Proofs.YtandanbojfdfjaaDoor
open Go.ChangeShapes Go.WideShapes Go.ChangeAt Go.RowKit

/-- the block whose body holds region k and no smaller one that is a block -/
def blockAt3 (id : Nat) : Code → Option Code
  | .seq a b => match blockAt3 id a with
    | some c => some c
    | none => blockAt3 id b
  | .block i c => if i == id then some (.block i c) else blockAt3 id c
  | .loop c => blockAt3 id c
  | .scope c => blockAt3 id c
  | .cond _ a b => match blockAt3 id a with
    | some c => some c
    | none => blockAt3 id b
  | _ => none
noncomputable def doB : Code := (Tryd.f25.body.bind (blockAt3 2)).getD .skip

/-- what holds between two steps -/
def DI (w0 w : World) (D E Y : Nat) (v : Value) (B : Nat) : Prop := ∃ b p s cl x g h q, DS w0 w D E Y b p s cl b p s cl x g h q ∧ v = x.val ∧ b.length ≤ B ∧ -(2^63) ≤ p ∧ p < 2^63 ∧ s.size ≤ B ∧ s.recs.length ≤ B
theorem DI.more {w0 w : World} {D E Y B B' : Nat} {v : Value} (h : DI w0 w D E Y v B) (hB : B ≤ B') : DI w0 w D E Y v B' := by
  obtain ⟨b, p, s, cl, x, g, h, q, h1, h2, h3, h4, h5, h6, h7⟩ := h
  exact ⟨b, p, s, cl, x, g, h, q, h1, h2, by omega, h4, h5, by omega, by omega⟩

theorem do_mid {w0 w w1 : World} {D E Y : Nat} {b : Bs} {p : Int} {s : St} {cl : Bool} {L base : Nat} {r g h q : Option Nat} {res : Nat × Bs × Int × St × Bool} {e1 : Ending} (H : DS w0 w D E Y b p s cl b p s cl (some (L, base, r)) g h q) (ha : AppQP w w0.heap.size E Y h q res e1 w1) :
    e1 = .returned (.int .i64 res.1) ∧ LogAt w1 base L D r s cl ∧ DiskAt w1 D b p ∧ Below w0.heap.size w0 w1 ∧ base ≤ w1.heap.size ∧ ∀ k t cs, Blk w k t cs → t ≠ 83 → t ≠ 77 → t ≠ 5 → t ≠ 9 → Blk w1 k t cs := by
  obtain ⟨he, h', q', hr, hl, fh, fq, hk⟩ := ha
  have H1 := H.ref hk hr hl fh fq
  refine ⟨he, H1.xl.1, H1.pd.at, H1.bel, H1.xl.2.2.1, fun k t cs hb n1 n2 n3 n4 => hk.blk hb ?_⟩
  obtain ⟨ce, hE⟩ := H.rd.blk
  obtain ⟨cy, hY⟩ := H.rl.blk
  rintro (e | e | e | e)
  · subst e; exact n1 (blk_ne hb hE)
  · subst e; exact n2 (blk_ne hb hY)
  · obtain ⟨c, hc⟩ := H.rd.gblk _ e; exact n3 (blk_ne hb hc)
  · obtain ⟨c, hc⟩ := H.rl.rblk _ e; exact n4 (blk_ne hb hc)
theorem di_app {w0 w w1 w2 : World} {D E Y B : Nat} {b : Bs} {p : Int} {s : St} {cl : Bool} {L base : Nat} {r g h q : Option Nat} {t : Bs} {e1 e2 : Ending} (H : DS w0 w D E Y b p s cl b p s cl (some (L, base, r)) g h q) (ha : AppQP w w0.heap.size E Y h q (appR b p s cl t) e1 w1)
    (hb : AppP w1 base L D r (appR b p s cl t) e2 w2) (h1 : b.length ≤ B) (h2 : -(2^63) ≤ p) (h3 : p < 2^63) (h4 : s.size ≤ B) (h5 : s.recs.length ≤ B) (ht : t.length ≤ 300) :
    e2 = .returned (.int .i64 (appR b p s cl t).1) ∧ DI w0 w2 D E Y (.pointer (some ⟨L, 0, none⟩)) (B + 306) := by
  obtain ⟨_, h', q', hr, hl, fh, fq, hk⟩ := ha
  have hxl := H.xl
  have H1 := H.ref hk hr hl fh fq
  obtain ⟨he, hd, ⟨r', hlg, fr⟩, hk2, hn⟩ := hb
  obtain ⟨g', hp, fg⟩ := H1.pd.of_new hd hn
  have hbd := appR_bd (b := b) (p := p) (s := s) (cl := cl) (t := t) hxl.2.2.2.2 h2 h3
  have hx1 := H1.xl
  have H2 := H1.prog (x' := some (L, base, r')) (hk2.mono fun k _ e => by
    rcases e with e | e | e
    · exact .inl e
    · subst e; exact .inr (.inl rfl)
    · exact .inr (.inr e)) hp ⟨hlg, hxl.2.1, Nat.le_trans hx1.2.2.1 hk2.size, hxl.2.2.2.1, hbd.2.2.2.1⟩ fg (fun k hk' => by
    have hk' : r' = some k := hk'
    rcases fr with rfl | ⟨j, rfl, hj⟩
    · exact .inl hk'
    · obtain rfl : j = k := by simpa using hk'
      exact .inr hj)
  exact ⟨he, _, _, _, _, some (L, base, r'), g', h', q', H2, rfl, by have := hbd.1; omega, hbd.2.1, hbd.2.2.1, by have := hbd.2.2.2.2.1; omega, by have := hbd.2.2.2.2.2; omega⟩
set_option maxRecDepth 1000000 in
set_option maxHeartbeats 16000000 in
theorem do_A (K : Act → World → Prop) (Q0 : Exit → Act → World → Prop) (hQp : ∀ d v c a w, Q0 (.panic c) (Act.put a (some d) v) w → Q0 (.panic c) a w) (w0 wz : World) (D E Y T B kk : Nat) (kd nn : Int) (t : ByteArray) (xv : Value) (ht : t.size ≤ 300) (hB : B ≤ 1000000) (hn1 : -(2^63) ≤ nn) (hn2 : nn < 2^63) (HI : Hid (DI w0 wz D E Y xv B)) (HTb : Hid (Tb w0)) (HT : Hid (Blk wz T 54 #[.int .u8 kd, .string t, .int .i64 nn])) (hkk : kk = 0 ∨ kk = 1 ∨ kk = 2 ∨ kk = 3)
    (u0 u1 u2 u3 u4 u5 u6 u11 u13 u14 u15 u16 u17 u18 u19 u20 u21 u22 u23 u24 u25 u26 u27 u28 u29 u30 u31 u32 u33 u34 u35 u36 u37 u38 u39 u40 u41 u42 u44 u45 u46 u47 u48 u49 u50 u51 u52 u53 u54 u55 u56 u57 u58 u59 u60 u61 u62 u63 u64 u65 u66 u67 u68 u69 u70 u71 u72 u73 u74 u75 u76 u77 u78 u79 u80 u81 u82 u83 u84 u85 u86 u87 u88 u89 u90 u91 u92 u93 u94 u95 u96 u97 u98 u99 u100 u101 u102 u103 u104 u105 u106 u107 u108 u109 u110 u111 u112 u113 u114 u115 u116 u117 u118 u119 u120 u121 u122 u123 u124 u125 u126 u127 u128 u129 u130 u131 u132 u133 u134 u135 u136 u137 u138 u139 u140 u141 u142 u143 u144 u145 u146 u147 u148 u149 u150 u151 u152 u153 u154 u155 u156 u157 u158 u159 u160 u161 u162 u163 u164 u165 u166 u167 u168 u169 u170 u171 u172 u173 u174 u175 u176 u177 u178 u179 u180 u181 u182 u183 u184 u185 u186 u187 u188 u189 u190 u191 u192 u193 u194 u195 u196 u197 u198 u199 u200 u201 u202 u203 u204 u205 u206 u207 u208 u209 : Value)
    (hK : ∀ (x6 x9 x13 x14 x15 x16 x17 x18 x19 x20 x21 x22 x44 x45 x46 x47 x48 x49 x50 x51 x52 x53 x54 x55 x56 x57 x58 x59 x60 x61 x62 x63 x64 x65 x66 x67 x68 x69 x70 x71 x72 x73 x74 x75 x76 x77 x78 x79 x80 x81 x82 x83 x84 x85 x86 x87 x88 x89 x90 x91 x92 x93 x94 x95 x96 x97 x98 x99 x100 x101 x102 x103 x104 x105 x106 x107 x108 x109 x110 x111 x112 x113 x114 x115 x116 x117 x118 x119 x120 x121 x122 x123 x124 x125 x126 x127 x128 x129 x130 x131 x132 x133 x134 x135 x136 x137 x138 x139 x140 x141 x142 x143 x144 x145 x146 x147 x148 x149 x150 x151 x152 x153 x154 x155 x156 x157 x158 x159 x160 x161 x162 x163 x164 : Value) (wx : World), Hid (DI w0 wx D E Y x9 (B + 306)) → K ⟨List.toArray (u0 :: u1 :: u2 :: u3 :: u4 :: u5 :: (x6) :: (.pointer (some ⟨D, 0, none⟩)) :: (.pointer (some ⟨E, 0, none⟩)) :: (x9) :: (.pointer (some ⟨Y, 0, none⟩)) :: u11 :: (.pointer (some ⟨T, 0, none⟩)) :: (x13) :: (x14) :: (x15) :: (x16) :: (x17) :: (x18) :: (x19) :: (x20) :: (x21) :: (x22) :: u23 :: u24 :: u25 :: u26 :: u27 :: u28 :: u29 :: u30 :: u31 :: u32 :: u33 :: u34 :: u35 :: u36 :: u37 :: u38 :: u39 :: u40 :: u41 :: u42 :: (.int .u8 (kk : Int)) :: (x44) :: (x45) :: (x46) :: (x47) :: (x48) :: (x49) :: (x50) :: (x51) :: (x52) :: (x53) :: (x54) :: (x55) :: (x56) :: (x57) :: (x58) :: (x59) :: (x60) :: (x61) :: (x62) :: (x63) :: (x64) :: (x65) :: (x66) :: (x67) :: (x68) :: (x69) :: (x70) :: (x71) :: (x72) :: (x73) :: (x74) :: (x75) :: (x76) :: (x77) :: (x78) :: (x79) :: (x80) :: (x81) :: (x82) :: (x83) :: (x84) :: (x85) :: (x86) :: (x87) :: (x88) :: (x89) :: (x90) :: (x91) :: (x92) :: (x93) :: (x94) :: (x95) :: (x96) :: (x97) :: (x98) :: (x99) :: (x100) :: (x101) :: (x102) :: (x103) :: (x104) :: (x105) :: (x106) :: (x107) :: (x108) :: (x109) :: (x110) :: (x111) :: (x112) :: (x113) :: (x114) :: (x115) :: (x116) :: (x117) :: (x118) :: (x119) :: (x120) :: (x121) :: (x122) :: (x123) :: (x124) :: (x125) :: (x126) :: (x127) :: (x128) :: (x129) :: (x130) :: (x131) :: (x132) :: (x133) :: (x134) :: (x135) :: (x136) :: (x137) :: (x138) :: (x139) :: (x140) :: (x141) :: (x142) :: (x143) :: (x144) :: (x145) :: (x146) :: (x147) :: (x148) :: (x149) :: (x150) :: (x151) :: (x152) :: (x153) :: (x154) :: (x155) :: (x156) :: (x157) :: (x158) :: (x159) :: (x160) :: (x161) :: (x162) :: (x163) :: (x164) :: u165 :: u166 :: u167 :: u168 :: u169 :: u170 :: u171 :: u172 :: u173 :: u174 :: u175 :: u176 :: u177 :: u178 :: u179 :: u180 :: u181 :: u182 :: u183 :: u184 :: u185 :: u186 :: u187 :: u188 :: u189 :: u190 :: u191 :: u192 :: u193 :: u194 :: u195 :: u196 :: u197 :: u198 :: u199 :: u200 :: u201 :: u202 :: u203 :: u204 :: u205 :: u206 :: u207 :: u208 :: u209 :: []), []⟩ wx) :
    doB.wp Tryd.prog (Exit.then K Q0) ⟨List.toArray (u0 :: u1 :: u2 :: u3 :: u4 :: u5 :: u6 :: (.pointer (some ⟨D, 0, none⟩)) :: (.pointer (some ⟨E, 0, none⟩)) :: (xv) :: (.pointer (some ⟨Y, 0, none⟩)) :: u11 :: (.pointer (some ⟨T, 0, none⟩)) :: u13 :: u14 :: u15 :: u16 :: u17 :: u18 :: u19 :: u20 :: u21 :: u22 :: u23 :: u24 :: u25 :: u26 :: u27 :: u28 :: u29 :: u30 :: u31 :: u32 :: u33 :: u34 :: u35 :: u36 :: u37 :: u38 :: u39 :: u40 :: u41 :: u42 :: (.int .u8 (kk : Int)) :: u44 :: u45 :: u46 :: u47 :: u48 :: u49 :: u50 :: u51 :: u52 :: u53 :: u54 :: u55 :: u56 :: u57 :: u58 :: u59 :: u60 :: u61 :: u62 :: u63 :: u64 :: u65 :: u66 :: u67 :: u68 :: u69 :: u70 :: u71 :: u72 :: u73 :: u74 :: u75 :: u76 :: u77 :: u78 :: u79 :: u80 :: u81 :: u82 :: u83 :: u84 :: u85 :: u86 :: u87 :: u88 :: u89 :: u90 :: u91 :: u92 :: u93 :: u94 :: u95 :: u96 :: u97 :: u98 :: u99 :: u100 :: u101 :: u102 :: u103 :: u104 :: u105 :: u106 :: u107 :: u108 :: u109 :: u110 :: u111 :: u112 :: u113 :: u114 :: u115 :: u116 :: u117 :: u118 :: u119 :: u120 :: u121 :: u122 :: u123 :: u124 :: u125 :: u126 :: u127 :: u128 :: u129 :: u130 :: u131 :: u132 :: u133 :: u134 :: u135 :: u136 :: u137 :: u138 :: u139 :: u140 :: u141 :: u142 :: u143 :: u144 :: u145 :: u146 :: u147 :: u148 :: u149 :: u150 :: u151 :: u152 :: u153 :: u154 :: u155 :: u156 :: u157 :: u158 :: u159 :: u160 :: u161 :: u162 :: u163 :: u164 :: u165 :: u166 :: u167 :: u168 :: u169 :: u170 :: u171 :: u172 :: u173 :: u174 :: u175 :: u176 :: u177 :: u178 :: u179 :: u180 :: u181 :: u182 :: u183 :: u184 :: u185 :: u186 :: u187 :: u188 :: u189 :: u190 :: u191 :: u192 :: u193 :: u194 :: u195 :: u196 :: u197 :: u198 :: u199 :: u200 :: u201 :: u202 :: u203 :: u204 :: u205 :: u206 :: u207 :: u208 :: u209 :: []), []⟩ wz := by
  have HK := Lib.hid hK
  clear hK
  conv => arg 2; whnf
  obtain ⟨b, p, s, cl, x, g, h, q, H, rfl, h1, h2, h3, h4, h5⟩ := HI.out
  have t1 := HT.out.cell 1 (.string t) rfl
  have HH := Lib.hid H
  have hT0 := HTb.out.lt
  rcases x with _ | ⟨L, base, r⟩
  · simp only [Opn.val]
    have HN := Lib.hid (app_nil t wz)
    clear H
    rcases hkk with rfl | rfl | rfl | rfl
    all_goals
      go_wp2_with fail
      refine HN.out.mono ?_
      rintro e w' ⟨rfl, rfl⟩
      go_wp2_with fail
      exact HK.out _ (.pointer none) _ _ _ _ _ _ _ _ _ _ _ _ _ _ _ _ _ _ _ _ _ _ _ _ _ _ _ _ _ _ _ _ _ _ _ _ _ _ _ _ _ _ _ _ _ _ _ _ _ _ _ _ _ _ _ _ _ _ _ _ _ _ _ _ _ _ _ _ _ _ _ _ _ _ _ _ _ _ _ _ _ _ _ _ _ _ _ _ _ _ _ _ _ _ _ _ _ _ _ _ _ _ _ _ _ _ _ _ _ _ _ _ _ _ _ _ _ _ _ _ _ _ _ _ _ _ _ _ _ _ _ _ (Lib.hid (DI.more HI.out (by omega)))
  · simp only [Opn.val]
    have hx := H.xl
    have hlast := hx.2.2.2.2
    have HR := Lib.hid (Append_ref w0.heap.size E Y h q s cl b p t wz H.rd H.rl hlast (by omega) h2 h3 (by omega) (by omega) H.bel.size (by unfold maxLen; omega))
    have htl : t.data.toList.length ≤ 300 := by rw [len_toList]; exact ht
    clear H hx
    rcases hkk with rfl | rfl | rfl | rfl
    all_goals
      go_wp2_with fail
      refine HR.out.mono ?_
      intro e w1 hq1
      have HQ1 := Lib.hid hq1
      obtain ⟨rfl, hLg, hDk, hbel, hbs, hKT⟩ := do_mid HH.out hq1
      have hT1 := hKT _ _ _ HT.out (by decide) (by decide) (by decide) (by decide)
      have t2 := Blk.cell hT1 1 (.string t) rfl
      have HP := Lib.hid (app_any base L D r s cl b p t w1 hLg hDk hlast (by omega) h2 h3 (HTb.out.below hbel HTb.out.lt) (by have := HH.out.D0; omega) (by have := HH.out.xl.2.2.2.1; omega) (by have := HH.out.xl.2.1; omega) hbs (by omega) (by omega))
      clear hq1 hLg hDk hbel hbs hKT hT1 HR t1
      go_wp2_with fail
      refine HP.out.mono ?_
      intro e w2 hq2
      obtain ⟨rfl, hD2⟩ := di_app HH.out HQ1.out hq2 h1 h2 h3 h4 h5 htl
      have HD2 := Lib.hid hD2
      have hbb : (((appR b p s cl t.data.toList).1 : Int) != ((appR b p s cl t.data.toList).1 : Int)) = false := by simp
      clear hq2 hD2 HP t2
      generalize ((appR b p s cl t.data.toList).1 : Int) = co at *
      go_wp2_with fail
      exact HK.out _ (.pointer (some ⟨L, 0, none⟩)) _ _ _ _ _ _ _ _ _ _ _ _ _ _ _ _ _ _ _ _ _ _ _ _ _ _ _ _ _ _ _ _ _ _ _ _ _ _ _ _ _ _ _ _ _ _ _ _ _ _ _ _ _ _ _ _ _ _ _ _ _ _ _ _ _ _ _ _ _ _ _ _ _ _ _ _ _ _ _ _ _ _ _ _ _ _ _ _ _ _ _ _ _ _ _ _ _ _ _ _ _ _ _ _ _ _ _ _ _ _ _ _ _ _ _ _ _ _ _ _ _ _ _ _ _ _ _ _ _ _ _ _ (HD2)
end Go.Proofs.YtandanbojfdfjaaDoor
