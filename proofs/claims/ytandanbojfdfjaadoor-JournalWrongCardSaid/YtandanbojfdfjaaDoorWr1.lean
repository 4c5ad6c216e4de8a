import Derived.Test.YtandanbojfdfjaaDoorOne
import Derived.Test.YtandanbojfdfjaaDoorStepAny
import Derived.ArgAppend
import Derived.Test.YtandanbojfdfjaaDoorAppS
namespace Go.Proofs.YtandanbojfdfjaaDoor
open Go.ChangeShapes Go.WideShapes Go.ChangeAt Go.RowKit

/-- the statement whose test lies in slot k -/
def condAt' (k : Nat) : Code → Option Code
  | .seq a b => match condAt' k a with
    | some c => some c
    | none => condAt' k b
  | .block _ c => condAt' k c
  | .loop c => condAt' k c
  | .scope c => condAt' k c
  | .cond (.tmp j) a b => if j == k then some (.cond (.tmp j) a b) else match condAt' k a with
    | some c => some c
    | none => condAt' k b
  | _ => none
/-- the region with number k -/
def regAt' (k : Nat) : Code → Option Code
  | .seq a b => match regAt' k a with
    | some c => some c
    | none => regAt' k b
  | .block _ c => regAt' k c
  | .loop c => regAt' k c
  | .scope c => regAt' k c
  | .cond _ a b => match regAt' k a with
    | some c => some c
    | none => regAt' k b
  | .region n o d => if n == k then some (.region n o d) else none
  | _ => none
/-- the loop whose body holds region k -/
def loopAt' (k : Nat) : Code → Option Code
  | .seq a b => match loopAt' k a with
    | some c => some c
    | none => loopAt' k b
  | .block _ c => loopAt' k c
  | .loop c => match regAt' k c with
    | some _ => some (.loop c)
    | none => none
  | .scope c => loopAt' k c
  | .cond _ a b => match loopAt' k a with
    | some c => some c
    | none => loopAt' k b
  | _ => none

theorem set_last {cs : Array Value} {o : Nat} {b : Bs} {c : UInt8} (hr : ∀ j u, (bcs b)[j]? = some u → cs[o + j]? = some u) (hs : o + b.length < cs.size) :
    ∀ j u, (bcs (b ++ [c]))[j]? = some u → (cs.setIfInBounds (o + b.length) (.int .u8 (c.toNat : Int)))[o + j]? = some u := by
  intro j u hu
  rw [bcs, List.map_append] at hu
  rcases Nat.lt_trichotomy j b.length with h | h | h
  · rw [List.getElem?_append_left (by simpa using h)] at hu
    rw [Array.getElem?_setIfInBounds_ne (by omega)]
    exact hr j u hu
  · subst h
    rw [List.getElem?_append_right (by simp)] at hu
    simp at hu
    rw [Array.getElem?_setIfInBounds_self_of_lt hs, ← hu]
  · rw [List.getElem?_append_right (by simp; omega)] at hu
    have := (List.getElem?_eq_some_iff.1 hu).1
    simp at this
    omega

/-- append(bytes, one byte), whatever block they lie in -/
theorem By.ap1 {P : Program} {ops : Array Oper} {rest : List Oper} {o : Oper} {a : Act} {Q : Exit → Act → World → Prop} {w : World} (hP : P = Tryd.prog) (hgd : o.guard = none) (s x : Operand)
    (ho : o.op = .call { callee := .builtin .append, args := #[s, x], argTypes := #[26, 26] }) {v : Value} {b : Bs} (c : UInt8) (hby : By w v b)
    (hs : a.eval s = v) (hx : a.eval x = .slice (some ⟨w.heap.size, 0, none⟩) 1 1) (hn : b.length ≤ 100000000)
    (h : ∀ v' w', By w' v' (b ++ [c]) → Kp w w' (fun k => v.ownBlock = some k) → wpList P ops Q rest (a.put o.dst v') w') :
    wpList P ops Q (o :: rest) a (w.alloc (.cells #[.int .u8 (c.toNat : Int)] 5)) := by
  subst hP
  obtain ⟨i, hi, hz0, hz1, hz2⟩ := info_parts eByte.info
  have hba := below_alloc w (.cells #[.int .u8 (c.toNat : Int)] 5)
  have hnews : ∀ j u, [Value.int .u8 (c.toNat : Int)][j]? = some u → (w.alloc (.cells #[.int .u8 (c.toNat : Int)] 5)).cell? ((⟨w.heap.size, 0, none⟩ : Addr).add j) = some u := by
    intro j u hu
    rw [add_lit', cell_of_row _ w.heap.size (0 + j) #[.int .u8 (c.toNat : Int)] 5 (0, 0) (heap_alloc_new w _)]
    simpa using hu
  have grow : ∀ v' w', w'.ownsRow (w.alloc (.cells #[.int .u8 (c.toNat : Int)] 5)).heap.size 5 1 v' (b.length + 1) (bcs b ++ [.int .u8 (c.toNat : Int)]) → (w.alloc (.cells #[.int .u8 (c.toNat : Int)] 5)).grownBy w' none →
      wpList Tryd.prog ops Q rest (a.put o.dst v') w' := fun v' w' hr hg => by
    refine h v' w' (By.row (base := (w.alloc (.cells #[.int .u8 (c.toNat : Int)] 5)).heap.size) ?_) ((Kp.of_below hba _).trans ((Kp.of_grown hg).mono fun k _ hk => by cases hk))
    rw [List.length_append, List.length_singleton, bcs, List.map_append]
    exact hr
  have hby' := hby.below hba
  rcases hby' with ⟨rfl, rfl⟩ | ⟨g, off, cap, cs, rfl, hB, hc, hr, hz⟩
  · refine wpList_append_grows _ hgd s x 26 ho 5 i (.int .u8 0) 1 1 eByte.ht hi hz0 hz1 hz2 rfl (by omega) none 0 0 [] hs (fun _ => ⟨rfl, rfl⟩) rfl (fun _ e => by cases e) ⟨w.heap.size, 0, none⟩ 1 1 [.int .u8 (c.toNat : Int)] hx rfl hnews (by simp [Value.oneCell']) (by omega) (by simp only [maxLen]; omega) (by omega) ?_
    intro v' w' hr' hg'
    exact grow v' w' hr' hg'
  · refine wpList_append_arg _ hgd s x 26 ho 5 i (.int .u8 0) 1 1 eByte.ht hi hz0 hz1 hz2 rfl (by omega) g off b.length cap (bcs b) hs (by simp) (fun j u hu => hB.cell _ u (hr j u hu)) ⟨w.heap.size, 0, none⟩ 1 1 [.int .u8 (c.toNat : Int)] hx rfl hnews (by simp [Value.oneCell']) ?_ (by simp only [maxLen]; omega) (by omega) ?_ ?_
    · intro hroom j hj
      have hj0 : j = 0 := by simpa using hj
      subst hj0
      refine ⟨?_, hB.frozen _⟩
      rw [cell_of_row _ g _ cs 5 (0, 0) hB]
      simp
      omega
    · intro hroom
      have e : (w.alloc (.cells #[.int .u8 (c.toNat : Int)] 5)).setCells g (off + b.length * 1) [.int .u8 (c.toNat : Int)] = (w.alloc (.cells #[.int .u8 (c.toNat : Int)] 5)).setCell ⟨g, off + b.length, none⟩ (.int .u8 (c.toNat : Int)) := by
        rw [Nat.mul_one]; rfl
      rw [e]
      have hlen : (b ++ [c]).length = b.length + 1 := by simp
      have hB2 := hB.set (off + b.length) (.int .u8 (c.toNat : Int))
      refine h _ _ (.inr ⟨g, off, cap, _, by rw [hlen], hB2, by omega, set_last hr (by omega), by simpa using hz⟩) ((Kp.of_below hba _).trans ((Kp.set _ g _ _).mono fun k _ hk => by subst hk; rfl))
    · intro _ v' w' hr' hg'
      exact grow v' w' hr' hg'

theorem bin_add_str (x y : ByteArray) (w : World) (h : x.size + y.size ≤ 1000000) : (binOp .add 9 (.string x) (.string y)).run Tryd.prog w = .ok (.string (x ++ y)) w := by
  simp [go_sem, binOp, Op.stringOp]
  omega
theorem ex_sslice_h {a : Act} {w : World} {o : Oper} {x y : Operand} {s : ByteArray} {m : Nat} (hop : o.op = .slice 9 x none (some y) none) (hx : a.eval x = .string s) (hy : a.eval y = .int .i64 (m : Int)) (hm : m ≤ s.size) :
    (execOp a.eval o).run Tryd.prog w = .ok (.value (.string (s.extract 0 m))) w := by
  unfold execOp
  rw [hop]
  have h := run_slice_string_to_if (P := Tryd.prog) w 9 s .i64 (m : Int) (by kernel_rfl)
  rw [if_pos (by omega)] at h
  simp only [Option.map, hx, hy, Sem.run_bind, run_sliceAt_string (P := Tryd.prog) w 9 _ _ _ _ (by kernel_rfl), h, Result.andThen_ok, Sem.run_pure, Int.toNat_natCast]
theorem ex_sslice_l {a : Act} {w : World} {o : Oper} {x y : Operand} {s : ByteArray} {m : Nat} (hop : o.op = .slice 9 x (some y) none none) (hx : a.eval x = .string s) (hy : a.eval y = .int .i64 (m : Int)) (hm : m ≤ s.size) :
    (execOp a.eval o).run Tryd.prog w = .ok (.value (.string (s.extract m s.size))) w := by
  unfold execOp
  rw [hop]
  have h := run_slice_string_from_if (P := Tryd.prog) w 9 s .i64 (m : Int) (by kernel_rfl)
  rw [if_pos (by omega)] at h
  simp only [Option.map, hx, hy, Sem.run_bind, run_sliceAt_string (P := Tryd.prog) w 9 _ _ _ _ (by kernel_rfl), h, Result.andThen_ok, Sem.run_pure, Int.toNat_natCast]
theorem en27 : Enters Tryd.prog 27 := enters_of Tryd.func27 (by kernel_rfl) (by kernel_rfl)
theorem rec_in {a b : Bs} {c : UInt8} (h : okc c = false) : recB (a ++ [c] ++ b) = false := by
  unfold recB
  rw [Bool.and_eq_false_iff]
  right
  rw [List.all_append, List.all_append]
  simp [h]
theorem bad_one (S : ByteArray) (i : Nat) (c : UInt8) (h : okc c = false) : recB (S.extract 0 i ++ ⟨#[c]⟩ ++ S.extract i S.size).data.toList = false := by
  have := rec_in (a := (S.extract 0 i).data.toList) (b := (S.extract i S.size).data.toList) h
  simpa using this
/-- strings that are no records, in a block -/
def Bads (w : World) (g : Nat) : Prop := ∃ f : Nat → ByteArray, ∀ j, j < 5 → w.cell? ⟨g, j, none⟩ = some (.string (f j)) ∧ recB (f j).data.toList = false ∧ (f j).size ≤ 1000
theorem By.ne {w : World} {v : Value} {b : Bs} {D t : Nat} {cs : Array Value} (h : By w v b) (hD : Blk w D t cs) (ht : t ≠ 5) : ¬ v.ownBlock = some D := by
  rcases h with ⟨rfl, _⟩ | ⟨g, o, c, cs', rfl, hB, _⟩
  · simp [Value.ownBlock]
  · intro e
    have e : g = D := by simpa [Value.ownBlock] using e
    subst e
    exact ht (blk_ne hD hB)
theorem By.ge {w : World} {v : Value} {b : Bs} (h : By w v b) : ∀ k, v.ownBlock = some k → ∃ cs, Blk w k 5 cs := by
  intro k hk
  rcases h with ⟨rfl, _⟩ | ⟨g, o, c, cs', rfl, hB, _⟩
  · simp [Value.ownBlock] at hk
  · have e : g = k := by simpa [Value.ownBlock] using hk
    subst e
    exact ⟨_, hB⟩
theorem cv_none (c : Nat) (w : World) : (convert 26 9 (.slice none 0 c)).run Tryd.prog w = .ok (.string ⟨#[]⟩) w := by kernel_rfl
theorem cv_zero (ad : Addr) (c : Nat) (w : World) : (convert 26 9 (.slice (some ad) 0 c)).run Tryd.prog w = .ok (.string ⟨#[]⟩) w := by kernel_rfl
/-- bytes that can be read, as a string, now or later -/
theorem Rd.cv {w w' : World} {A : Option Addr} {n c : Nat} {b : Bs} (h : Rd w w.heap.size A (bcs b)) (hn : b.length = n) (hb : Below w.heap.size w w') :
    (convert 26 9 (.slice A n c)).run Tryd.prog w' = .ok (.string ⟨b.toArray⟩) w' := by
  subst hn
  by_cases h0 : b = []
  · subst h0
    rcases A with _ | ad
    · exact cv_none c w'
    · exact cv_zero ad c w'
  · have hp := List.length_pos_iff.2 h0
    obtain ⟨k, o, rfl, _, _⟩ := h (by simpa using hp)
    exact Lib.run_convert_whole (P := Tryd.prog) w' 26 5 9 (by kernel_rfl) (by kernel_rfl) (by kernel_rfl) k o ⟨b.toArray⟩ (rd_bytes (h.keep hb hb.size)) c
end Go.Proofs.YtandanbojfdfjaaDoor

namespace Go.Proofs.YtandanbojfdfjaaDoor
open Go.ChangeShapes Go.WideShapes Go.ChangeAt Go.RowKit

noncomputable def wr11 : Code := (Tryd.f11.body.bind (regAt' 11)).getD .skip
theorem bads_new (S : ByteArray) (i : Nat) (w : World) (hS : S.size = 8) : Bads (w.alloc (.cells #[.string (S.extract 0 i ++ ⟨#[10]⟩ ++ S.extract i S.size), .string (S.extract 0 i ++ ⟨#[127]⟩ ++ S.extract i S.size), .string (S.extract 0 i ++ ⟨#[31]⟩ ++ S.extract i S.size), .string (S.extract 0 i ++ ⟨#[255]⟩ ++ S.extract i S.size), .string ⟨(Lib.repeatL S.data.toList 26).toArray⟩] 9)) w.heap.size := by
  have hc := Blk.new w #[.string (S.extract 0 i ++ ⟨#[10]⟩ ++ S.extract i S.size), .string (S.extract 0 i ++ ⟨#[127]⟩ ++ S.extract i S.size), .string (S.extract 0 i ++ ⟨#[31]⟩ ++ S.extract i S.size), .string (S.extract 0 i ++ ⟨#[255]⟩ ++ S.extract i S.size), .string ⟨(Lib.repeatL S.data.toList 26).toArray⟩] 9
  have hz0 : (S.extract 0 i).size ≤ 8 := by rw [ByteArray.size_extract]; omega
  have hz1 : (S.extract i S.size).size ≤ 8 := by rw [ByteArray.size_extract]; omega
  have hz : ∀ c : UInt8, (S.extract 0 i ++ ⟨#[c]⟩ ++ S.extract i S.size).size ≤ 1000 := fun c => by
    have : (ByteArray.mk #[c]).size = 1 := rfl
    rw [ByteArray.size_append, ByteArray.size_append]; omega
  have hr : (Lib.repeatL S.data.toList 26).length = 208 := by
    rw [Lib.repeatL_length, len_toList, hS]
  refine ⟨fun j => match j with | 0 => S.extract 0 i ++ ⟨#[10]⟩ ++ S.extract i S.size | 1 => S.extract 0 i ++ ⟨#[127]⟩ ++ S.extract i S.size | 2 => S.extract 0 i ++ ⟨#[31]⟩ ++ S.extract i S.size | 3 => S.extract 0 i ++ ⟨#[255]⟩ ++ S.extract i S.size | _ => ⟨(Lib.repeatL S.data.toList 26).toArray⟩, fun j hj => ?_⟩
  match j, hj with
  | 0, _ => exact ⟨hc.cell 0 _ rfl, bad_one S i 10 (by decide), hz _⟩
  | 1, _ => exact ⟨hc.cell 1 _ rfl, bad_one S i 127 (by decide), hz _⟩
  | 2, _ => exact ⟨hc.cell 2 _ rfl, bad_one S i 31 (by decide), hz _⟩
  | 3, _ => exact ⟨hc.cell 3 _ rfl, bad_one S i 255 (by decide), hz _⟩
  | 4, _ =>
    refine ⟨hc.cell 4 _ rfl, ?_, ?_⟩
    · unfold recB
      rw [Bool.and_eq_false_iff]
      left
      simp [hr]
    · show (Lib.repeatL S.data.toList 26).toArray.size ≤ 1000
      simp [hr]
set_option maxRecDepth 1000000 in
set_option maxHeartbeats 16000000 in
theorem wr_11 (K : Act → World → Prop) (K2 : Act → World → Prop) (R : Ending → World → Prop) (w0 : World) (S : ByteArray) (i : Nat) (hS : S.size = 8) (hi8 : i ≤ 8)
    (u0 u1 u2 u3 u4 u5 u6 u7 u8 u9 u10 u11 u12 u15 u16 u17 u18 u19 u20 u21 u22 u23 u24 u25 u26 u27 u28 u29 u30 u31 u32 u33 u34 u35 u36 u37 u38 u39 u40 u41 u42 u43 u44 u45 u46 u47 u48 u49 u50 u51 u52 u53 u54 u55 u56 u57 u58 u59 u60 u61 u62 u63 u64 u65 u66 u67 u68 u69 u70 u71 u72 u73 u74 u75 u76 u77 u78 u79 u80 u81 u82 u83 u84 u85 u86 u87 u88 u89 u90 u91 u92 u93 u94 u95 u96 u97 u98 u99 u100 u101 u102 u103 u104 u105 u106 u107 u108 u109 u110 u111 u112 u113 u114 u115 u116 u117 u118 u119 u120 u121 u122 u123 u124 u125 u126 u127 u128 u129 u130 u131 u132 u133 u134 u135 u136 u137 u138 u139 u140 u141 u142 u143 u144 u145 u146 u147 u148 u149 u150 u151 u152 u153 u154 u155 u156 u157 u158 u159 u160 u161 u162 u163 u164 u165 u166 u167 u168 u169 u170 u171 u172 u173 u174 u175 u176 u177 u178 u179 u180 u181 u182 u183 u184 u185 u186 u187 u188 u189 u190 u191 u192 u193 u194 u195 u196 u197 u198 u199 u200 u201 u202 u203 u204 u205 u206 u207 u208 u209 u210 u211 u212 u213 u214 u215 u216 u217 u218 u219 u220 u221 u222 u223 u224 u225 u226 u227 u228 u229 u230 u231 : Value)
    (hK : ∀ (x62 x63 x64 x65 x66 x67 x68 x69 x70 x71 x72 x73 x74 x75 x76 x77 x78 x79 x80 x81 x82 x83 x84 x85 x86 x87 x88 x89 x90 x91 x92 x93 x94 x95 : Value) (g : Nat) (wx : World), Below w0.heap.size w0 wx ∧ Bads wx g → K ⟨List.toArray (u0 :: u1 :: u2 :: u3 :: u4 :: u5 :: u6 :: u7 :: u8 :: u9 :: u10 :: u11 :: u12 :: (.string S) :: (.int .i64 (i : Int)) :: u15 :: u16 :: u17 :: u18 :: u19 :: u20 :: u21 :: u22 :: u23 :: u24 :: u25 :: u26 :: u27 :: u28 :: u29 :: u30 :: u31 :: u32 :: u33 :: u34 :: u35 :: u36 :: u37 :: u38 :: u39 :: u40 :: u41 :: u42 :: u43 :: u44 :: u45 :: u46 :: u47 :: u48 :: u49 :: u50 :: u51 :: u52 :: u53 :: u54 :: u55 :: u56 :: u57 :: u58 :: u59 :: u60 :: u61 :: (x62) :: (x63) :: (x64) :: (x65) :: (x66) :: (x67) :: (x68) :: (x69) :: (x70) :: (x71) :: (x72) :: (x73) :: (x74) :: (x75) :: (x76) :: (x77) :: (x78) :: (x79) :: (x80) :: (x81) :: (x82) :: (x83) :: (x84) :: (x85) :: (x86) :: (x87) :: (x88) :: (x89) :: (x90) :: (x91) :: (x92) :: (x93) :: (x94) :: (x95) :: (.slice (some ⟨g, 0, none⟩) 5 5) :: (.int .i64 5) :: (.int .i64 0) :: u99 :: u100 :: u101 :: u102 :: u103 :: u104 :: u105 :: u106 :: u107 :: u108 :: u109 :: u110 :: u111 :: u112 :: u113 :: u114 :: u115 :: u116 :: u117 :: u118 :: u119 :: u120 :: u121 :: u122 :: u123 :: u124 :: u125 :: u126 :: u127 :: u128 :: u129 :: u130 :: u131 :: u132 :: u133 :: u134 :: u135 :: u136 :: u137 :: u138 :: u139 :: u140 :: u141 :: u142 :: u143 :: u144 :: u145 :: u146 :: u147 :: u148 :: u149 :: u150 :: u151 :: u152 :: u153 :: u154 :: u155 :: u156 :: u157 :: u158 :: u159 :: u160 :: u161 :: u162 :: u163 :: u164 :: u165 :: u166 :: u167 :: u168 :: u169 :: u170 :: u171 :: u172 :: u173 :: u174 :: u175 :: u176 :: u177 :: u178 :: u179 :: u180 :: u181 :: u182 :: u183 :: u184 :: u185 :: u186 :: u187 :: u188 :: u189 :: u190 :: u191 :: u192 :: u193 :: u194 :: u195 :: u196 :: u197 :: u198 :: u199 :: u200 :: u201 :: u202 :: u203 :: u204 :: u205 :: u206 :: u207 :: u208 :: u209 :: u210 :: u211 :: u212 :: u213 :: u214 :: u215 :: u216 :: u217 :: u218 :: u219 :: u220 :: u221 :: u222 :: u223 :: u224 :: u225 :: u226 :: u227 :: u228 :: u229 :: u230 :: u231 :: []), []⟩ wx) :
    wr11.wp Tryd.prog (Exit.then K (Exit.then K2 (bodyPost Tryd.prog Tryd.f11 R))) ⟨List.toArray (u0 :: u1 :: u2 :: u3 :: u4 :: u5 :: u6 :: u7 :: u8 :: u9 :: u10 :: u11 :: u12 :: (.string S) :: (.int .i64 (i : Int)) :: u15 :: u16 :: u17 :: u18 :: u19 :: u20 :: u21 :: u22 :: u23 :: u24 :: u25 :: u26 :: u27 :: u28 :: u29 :: u30 :: u31 :: u32 :: u33 :: u34 :: u35 :: u36 :: u37 :: u38 :: u39 :: u40 :: u41 :: u42 :: u43 :: u44 :: u45 :: u46 :: u47 :: u48 :: u49 :: u50 :: u51 :: u52 :: u53 :: u54 :: u55 :: u56 :: u57 :: u58 :: u59 :: u60 :: u61 :: u62 :: u63 :: u64 :: u65 :: u66 :: u67 :: u68 :: u69 :: u70 :: u71 :: u72 :: u73 :: u74 :: u75 :: u76 :: u77 :: u78 :: u79 :: u80 :: u81 :: u82 :: u83 :: u84 :: u85 :: u86 :: u87 :: u88 :: u89 :: u90 :: u91 :: u92 :: u93 :: u94 :: u95 :: u96 :: u97 :: u98 :: u99 :: u100 :: u101 :: u102 :: u103 :: u104 :: u105 :: u106 :: u107 :: u108 :: u109 :: u110 :: u111 :: u112 :: u113 :: u114 :: u115 :: u116 :: u117 :: u118 :: u119 :: u120 :: u121 :: u122 :: u123 :: u124 :: u125 :: u126 :: u127 :: u128 :: u129 :: u130 :: u131 :: u132 :: u133 :: u134 :: u135 :: u136 :: u137 :: u138 :: u139 :: u140 :: u141 :: u142 :: u143 :: u144 :: u145 :: u146 :: u147 :: u148 :: u149 :: u150 :: u151 :: u152 :: u153 :: u154 :: u155 :: u156 :: u157 :: u158 :: u159 :: u160 :: u161 :: u162 :: u163 :: u164 :: u165 :: u166 :: u167 :: u168 :: u169 :: u170 :: u171 :: u172 :: u173 :: u174 :: u175 :: u176 :: u177 :: u178 :: u179 :: u180 :: u181 :: u182 :: u183 :: u184 :: u185 :: u186 :: u187 :: u188 :: u189 :: u190 :: u191 :: u192 :: u193 :: u194 :: u195 :: u196 :: u197 :: u198 :: u199 :: u200 :: u201 :: u202 :: u203 :: u204 :: u205 :: u206 :: u207 :: u208 :: u209 :: u210 :: u211 :: u212 :: u213 :: u214 :: u215 :: u216 :: u217 :: u218 :: u219 :: u220 :: u221 :: u222 :: u223 :: u224 :: u225 :: u226 :: u227 :: u228 :: u229 :: u230 :: u231 :: []), []⟩ w0 := by
  have HK := Lib.hid hK
  clear hK
  conv => arg 2; whnf
  refine wp_region_any (by kernel_rfl) ?_
  change wpAny _ _ _ _ _ _ _ (World.drew _)
  have hi : i ≤ S.size := by omega
  have hz0 : (S.extract 0 i).size ≤ 8 := by rw [ByteArray.size_extract]; omega
  have hz1 : (S.extract i S.size).size ≤ 8 := by rw [ByteArray.size_extract]; omega
  have HH1 : ∀ c : UInt8, (S.extract 0 i).size + (ByteArray.mk #[c]).size ≤ 1000000 := fun c => by have : (ByteArray.mk #[c]).size = 1 := rfl; omega
  have HH2 : ∀ c : UInt8, (S.extract 0 i ++ ByteArray.mk #[c]).size + (S.extract i S.size).size ≤ 1000000 := fun c => by
    have : (ByteArray.mk #[c]).size = 1 := rfl
    rw [ByteArray.size_append]; omega
  obtain ⟨wr, hwr⟩ : ∃ wr : World, w0.drew = wr := ⟨_, rfl⟩
  rw [hwr]
  have hbr : Below w0.heap.size w0 wr := by rw [← hwr]; exact (Below.refl _ _).drew
  clear hwr
  refine wpAny_take (i := 0) (oi := ⟨some 62, Op.move (Operand.tmp 13), 9, "outright.go:212", #[], none⟩) (v := (.string S)) rfl (by kernel_rfl) (by kernel_rfl) (by kernel_rfl) (fun _ _ _ h => h) (Or.inl ⟨by kernel_rfl, fun _ => (by kernel_rfl)⟩) ?_
  refine wpAny_take (i := 1) (oi := ⟨some 63, Op.move (Operand.tmp 14), 3, "outright.go:212", #[], none⟩) (v := (.int .i64 (i : Int))) rfl (by kernel_rfl) (by kernel_rfl) (by kernel_rfl) (fun _ _ _ h => h) (Or.inl ⟨by kernel_rfl, fun _ => (by kernel_rfl)⟩) ?_
  refine wpAny_take (i := 2) (oi := ⟨some 64, Op.slice 9 (Operand.tmp 62) none (some (Operand.tmp 63)) none, 9, "outright.go:212", #[⟨0, .data⟩, ⟨1, .data⟩], none⟩) (v := (.string (S.extract 0 i))) rfl (by kernel_rfl) (by kernel_rfl) (by kernel_rfl) (fun _ _ _ h => h) (Or.inl ⟨by kernel_rfl, fun _ => (ex_sslice_h rfl (by kernel_rfl) (by kernel_rfl) hi)⟩) ?_
  refine wpAny_take (i := 3) (oi := ⟨some 65, Op.binOp BinOp.add 9 (Operand.tmp 64) (Operand.const (Value.string { data := #[10] })) 9, 9, "outright.go:212", #[⟨2, .data⟩], none⟩) (v := (.string (S.extract 0 i ++ ⟨#[10]⟩))) rfl (by kernel_rfl) (by kernel_rfl) (by kernel_rfl) (fun _ _ _ h => h) (Or.inl ⟨by kernel_rfl, fun _ => (ex_bin rfl (by kernel_rfl) (by kernel_rfl) (by kernel_rfl) (bin_add_str _ _ _ (HH1 _)))⟩) ?_
  refine wpAny_take (i := 4) (oi := ⟨some 66, Op.move (Operand.tmp 13), 9, "outright.go:212", #[], none⟩) (v := (.string S)) rfl (by kernel_rfl) (by kernel_rfl) (by kernel_rfl) (fun _ _ _ h => h) (Or.inl ⟨by kernel_rfl, fun _ => (by kernel_rfl)⟩) ?_
  refine wpAny_take (i := 5) (oi := ⟨some 67, Op.move (Operand.tmp 14), 3, "outright.go:212", #[], none⟩) (v := (.int .i64 (i : Int))) rfl (by kernel_rfl) (by kernel_rfl) (by kernel_rfl) (fun _ _ _ h => h) (Or.inl ⟨by kernel_rfl, fun _ => (by kernel_rfl)⟩) ?_
  refine wpAny_take (i := 6) (oi := ⟨some 68, Op.slice 9 (Operand.tmp 66) (some (Operand.tmp 67)) none none, 9, "outright.go:212", #[⟨4, .data⟩, ⟨5, .data⟩], none⟩) (v := (.string (S.extract i S.size))) rfl (by kernel_rfl) (by kernel_rfl) (by kernel_rfl) (fun _ _ _ h => h) (Or.inl ⟨by kernel_rfl, fun _ => (ex_sslice_l rfl (by kernel_rfl) (by kernel_rfl) hi)⟩) ?_
  refine wpAny_take (i := 7) (oi := ⟨some 69, Op.binOp BinOp.add 9 (Operand.tmp 65) (Operand.tmp 68) 9, 9, "outright.go:212", #[⟨3, .data⟩, ⟨6, .data⟩], none⟩) (v := (.string (S.extract 0 i ++ ⟨#[10]⟩ ++ S.extract i S.size))) rfl (by kernel_rfl) (by kernel_rfl) (by kernel_rfl) (fun _ _ _ h => h) (Or.inl ⟨by kernel_rfl, fun _ => (ex_bin rfl (by kernel_rfl) (by kernel_rfl) (by kernel_rfl) (bin_add_str _ _ _ (HH2 _)))⟩) ?_
  refine wpAny_take (i := 8) (oi := ⟨some 70, Op.move (Operand.tmp 13), 9, "outright.go:212", #[], none⟩) (v := (.string S)) rfl (by kernel_rfl) (by kernel_rfl) (by kernel_rfl) (fun _ _ _ h => h) (Or.inl ⟨by kernel_rfl, fun _ => (by kernel_rfl)⟩) ?_
  refine wpAny_take (i := 9) (oi := ⟨some 71, Op.move (Operand.tmp 14), 3, "outright.go:212", #[], none⟩) (v := (.int .i64 (i : Int))) rfl (by kernel_rfl) (by kernel_rfl) (by kernel_rfl) (fun _ _ _ h => h) (Or.inl ⟨by kernel_rfl, fun _ => (by kernel_rfl)⟩) ?_
  refine wpAny_take (i := 10) (oi := ⟨some 72, Op.slice 9 (Operand.tmp 70) none (some (Operand.tmp 71)) none, 9, "outright.go:212", #[⟨8, .data⟩, ⟨9, .data⟩], none⟩) (v := (.string (S.extract 0 i))) rfl (by kernel_rfl) (by kernel_rfl) (by kernel_rfl) (fun _ _ _ h => h) (Or.inl ⟨by kernel_rfl, fun _ => (ex_sslice_h rfl (by kernel_rfl) (by kernel_rfl) hi)⟩) ?_
  refine wpAny_take (i := 11) (oi := ⟨some 73, Op.binOp BinOp.add 9 (Operand.tmp 72) (Operand.const (Value.string { data := #[127] })) 9, 9, "outright.go:212", #[⟨10, .data⟩], none⟩) (v := (.string (S.extract 0 i ++ ⟨#[127]⟩))) rfl (by kernel_rfl) (by kernel_rfl) (by kernel_rfl) (fun _ _ _ h => h) (Or.inl ⟨by kernel_rfl, fun _ => (ex_bin rfl (by kernel_rfl) (by kernel_rfl) (by kernel_rfl) (bin_add_str _ _ _ (HH1 _)))⟩) ?_
  refine wpAny_take (i := 12) (oi := ⟨some 74, Op.move (Operand.tmp 13), 9, "outright.go:212", #[], none⟩) (v := (.string S)) rfl (by kernel_rfl) (by kernel_rfl) (by kernel_rfl) (fun _ _ _ h => h) (Or.inl ⟨by kernel_rfl, fun _ => (by kernel_rfl)⟩) ?_
  refine wpAny_take (i := 13) (oi := ⟨some 75, Op.move (Operand.tmp 14), 3, "outright.go:212", #[], none⟩) (v := (.int .i64 (i : Int))) rfl (by kernel_rfl) (by kernel_rfl) (by kernel_rfl) (fun _ _ _ h => h) (Or.inl ⟨by kernel_rfl, fun _ => (by kernel_rfl)⟩) ?_
  refine wpAny_take (i := 14) (oi := ⟨some 76, Op.slice 9 (Operand.tmp 74) (some (Operand.tmp 75)) none none, 9, "outright.go:212", #[⟨12, .data⟩, ⟨13, .data⟩], none⟩) (v := (.string (S.extract i S.size))) rfl (by kernel_rfl) (by kernel_rfl) (by kernel_rfl) (fun _ _ _ h => h) (Or.inl ⟨by kernel_rfl, fun _ => (ex_sslice_l rfl (by kernel_rfl) (by kernel_rfl) hi)⟩) ?_
  refine wpAny_take (i := 15) (oi := ⟨some 77, Op.binOp BinOp.add 9 (Operand.tmp 73) (Operand.tmp 76) 9, 9, "outright.go:212", #[⟨11, .data⟩, ⟨14, .data⟩], none⟩) (v := (.string (S.extract 0 i ++ ⟨#[127]⟩ ++ S.extract i S.size))) rfl (by kernel_rfl) (by kernel_rfl) (by kernel_rfl) (fun _ _ _ h => h) (Or.inl ⟨by kernel_rfl, fun _ => (ex_bin rfl (by kernel_rfl) (by kernel_rfl) (by kernel_rfl) (bin_add_str _ _ _ (HH2 _)))⟩) ?_
  refine wpAny_take (i := 16) (oi := ⟨some 78, Op.move (Operand.tmp 13), 9, "outright.go:212", #[], none⟩) (v := (.string S)) rfl (by kernel_rfl) (by kernel_rfl) (by kernel_rfl) (fun _ _ _ h => h) (Or.inl ⟨by kernel_rfl, fun _ => (by kernel_rfl)⟩) ?_
  refine wpAny_take (i := 17) (oi := ⟨some 79, Op.move (Operand.tmp 14), 3, "outright.go:212", #[], none⟩) (v := (.int .i64 (i : Int))) rfl (by kernel_rfl) (by kernel_rfl) (by kernel_rfl) (fun _ _ _ h => h) (Or.inl ⟨by kernel_rfl, fun _ => (by kernel_rfl)⟩) ?_
  refine wpAny_take (i := 18) (oi := ⟨some 80, Op.slice 9 (Operand.tmp 78) none (some (Operand.tmp 79)) none, 9, "outright.go:212", #[⟨16, .data⟩, ⟨17, .data⟩], none⟩) (v := (.string (S.extract 0 i))) rfl (by kernel_rfl) (by kernel_rfl) (by kernel_rfl) (fun _ _ _ h => h) (Or.inl ⟨by kernel_rfl, fun _ => (ex_sslice_h rfl (by kernel_rfl) (by kernel_rfl) hi)⟩) ?_
  refine wpAny_take (i := 19) (oi := ⟨some 81, Op.binOp BinOp.add 9 (Operand.tmp 80) (Operand.const (Value.string { data := #[31] })) 9, 9, "outright.go:212", #[⟨18, .data⟩], none⟩) (v := (.string (S.extract 0 i ++ ⟨#[31]⟩))) rfl (by kernel_rfl) (by kernel_rfl) (by kernel_rfl) (fun _ _ _ h => h) (Or.inl ⟨by kernel_rfl, fun _ => (ex_bin rfl (by kernel_rfl) (by kernel_rfl) (by kernel_rfl) (bin_add_str _ _ _ (HH1 _)))⟩) ?_
  refine wpAny_take (i := 20) (oi := ⟨some 82, Op.move (Operand.tmp 13), 9, "outright.go:212", #[], none⟩) (v := (.string S)) rfl (by kernel_rfl) (by kernel_rfl) (by kernel_rfl) (fun _ _ _ h => h) (Or.inl ⟨by kernel_rfl, fun _ => (by kernel_rfl)⟩) ?_
  refine wpAny_take (i := 21) (oi := ⟨some 83, Op.move (Operand.tmp 14), 3, "outright.go:212", #[], none⟩) (v := (.int .i64 (i : Int))) rfl (by kernel_rfl) (by kernel_rfl) (by kernel_rfl) (fun _ _ _ h => h) (Or.inl ⟨by kernel_rfl, fun _ => (by kernel_rfl)⟩) ?_
  refine wpAny_take (i := 22) (oi := ⟨some 84, Op.slice 9 (Operand.tmp 82) (some (Operand.tmp 83)) none none, 9, "outright.go:212", #[⟨20, .data⟩, ⟨21, .data⟩], none⟩) (v := (.string (S.extract i S.size))) rfl (by kernel_rfl) (by kernel_rfl) (by kernel_rfl) (fun _ _ _ h => h) (Or.inl ⟨by kernel_rfl, fun _ => (ex_sslice_l rfl (by kernel_rfl) (by kernel_rfl) hi)⟩) ?_
  refine wpAny_take (i := 23) (oi := ⟨some 85, Op.binOp BinOp.add 9 (Operand.tmp 81) (Operand.tmp 84) 9, 9, "outright.go:212", #[⟨19, .data⟩, ⟨22, .data⟩], none⟩) (v := (.string (S.extract 0 i ++ ⟨#[31]⟩ ++ S.extract i S.size))) rfl (by kernel_rfl) (by kernel_rfl) (by kernel_rfl) (fun _ _ _ h => h) (Or.inl ⟨by kernel_rfl, fun _ => (ex_bin rfl (by kernel_rfl) (by kernel_rfl) (by kernel_rfl) (bin_add_str _ _ _ (HH2 _)))⟩) ?_
  refine wpAny_take (i := 24) (oi := ⟨some 86, Op.move (Operand.tmp 13), 9, "outright.go:212", #[], none⟩) (v := (.string S)) rfl (by kernel_rfl) (by kernel_rfl) (by kernel_rfl) (fun _ _ _ h => h) (Or.inl ⟨by kernel_rfl, fun _ => (by kernel_rfl)⟩) ?_
  refine wpAny_take (i := 25) (oi := ⟨some 87, Op.move (Operand.tmp 14), 3, "outright.go:212", #[], none⟩) (v := (.int .i64 (i : Int))) rfl (by kernel_rfl) (by kernel_rfl) (by kernel_rfl) (fun _ _ _ h => h) (Or.inl ⟨by kernel_rfl, fun _ => (by kernel_rfl)⟩) ?_
  refine wpAny_take (i := 26) (oi := ⟨some 88, Op.slice 9 (Operand.tmp 86) none (some (Operand.tmp 87)) none, 9, "outright.go:212", #[⟨24, .data⟩, ⟨25, .data⟩], none⟩) (v := (.string (S.extract 0 i))) rfl (by kernel_rfl) (by kernel_rfl) (by kernel_rfl) (fun _ _ _ h => h) (Or.inl ⟨by kernel_rfl, fun _ => (ex_sslice_h rfl (by kernel_rfl) (by kernel_rfl) hi)⟩) ?_
  refine wpAny_take (i := 27) (oi := ⟨some 89, Op.binOp BinOp.add 9 (Operand.tmp 88) (Operand.const (Value.string { data := #[255] })) 9, 9, "outright.go:212", #[⟨26, .data⟩], none⟩) (v := (.string (S.extract 0 i ++ ⟨#[255]⟩))) rfl (by kernel_rfl) (by kernel_rfl) (by kernel_rfl) (fun _ _ _ h => h) (Or.inl ⟨by kernel_rfl, fun _ => (ex_bin rfl (by kernel_rfl) (by kernel_rfl) (by kernel_rfl) (bin_add_str _ _ _ (HH1 _)))⟩) ?_
  refine wpAny_take (i := 28) (oi := ⟨some 90, Op.move (Operand.tmp 13), 9, "outright.go:212", #[], none⟩) (v := (.string S)) rfl (by kernel_rfl) (by kernel_rfl) (by kernel_rfl) (fun _ _ _ h => h) (Or.inl ⟨by kernel_rfl, fun _ => (by kernel_rfl)⟩) ?_
  refine wpAny_take (i := 29) (oi := ⟨some 91, Op.move (Operand.tmp 14), 3, "outright.go:212", #[], none⟩) (v := (.int .i64 (i : Int))) rfl (by kernel_rfl) (by kernel_rfl) (by kernel_rfl) (fun _ _ _ h => h) (Or.inl ⟨by kernel_rfl, fun _ => (by kernel_rfl)⟩) ?_
  refine wpAny_take (i := 30) (oi := ⟨some 92, Op.slice 9 (Operand.tmp 90) (some (Operand.tmp 91)) none none, 9, "outright.go:212", #[⟨28, .data⟩, ⟨29, .data⟩], none⟩) (v := (.string (S.extract i S.size))) rfl (by kernel_rfl) (by kernel_rfl) (by kernel_rfl) (fun _ _ _ h => h) (Or.inl ⟨by kernel_rfl, fun _ => (ex_sslice_l rfl (by kernel_rfl) (by kernel_rfl) hi)⟩) ?_
  refine wpAny_take (i := 31) (oi := ⟨some 93, Op.binOp BinOp.add 9 (Operand.tmp 89) (Operand.tmp 92) 9, 9, "outright.go:212", #[⟨27, .data⟩, ⟨30, .data⟩], none⟩) (v := (.string (S.extract 0 i ++ ⟨#[255]⟩ ++ S.extract i S.size))) rfl (by kernel_rfl) (by kernel_rfl) (by kernel_rfl) (fun _ _ _ h => h) (Or.inl ⟨by kernel_rfl, fun _ => (ex_bin rfl (by kernel_rfl) (by kernel_rfl) (by kernel_rfl) (bin_add_str _ _ _ (HH2 _)))⟩) ?_
  refine wpAny_take (i := 32) (oi := ⟨some 94, Op.move (Operand.tmp 13), 9, "outright.go:212", #[], none⟩) (v := (.string S)) rfl (by kernel_rfl) (by kernel_rfl) (by kernel_rfl) (fun _ _ _ h => h) (Or.inl ⟨by kernel_rfl, fun _ => (by kernel_rfl)⟩) ?_
  refine wpAny_take (i := 36) (oi := ⟨some 98, Op.move (Operand.const (Value.int IntKind.i64 0)), 3, "outright.go:212", #[], none⟩) (v := (.int .i64 0)) rfl (by kernel_rfl) (by kernel_rfl) (by kernel_rfl) (fun _ _ _ h => h) (Or.inl ⟨by kernel_rfl, fun _ => (by kernel_rfl)⟩) ?_
  refine any_call 33 (o := ⟨some 95, Op.call { callee := Callee.value (Operand.func 27), args := #[Operand.tmp 94, Operand.const (Value.int IntKind.i64 26)], argTypes := #[9, 3] }, 9, "outright.go:212", #[⟨32, .data⟩], none⟩) 27 _ _ #[(.string S), (Value.int IntKind.i64 26)] (by kernel_rfl) rfl (by kernel_rfl) rfl (by kernel_rfl) en27 (Calls.mono (Tryd.strings_Repeat S 26 wr (by omega) (by rw [hS]; omega)) ?_)
  rintro e w1 ⟨rfl, hb1⟩
  refine ⟨_, rfl, ?_⟩
  refine any_val 34 (o := ⟨some 96, Op.buildSlice 22 5 #[(0, Operand.tmp 69), (1, Operand.tmp 77), (2, Operand.tmp 85), (3, Operand.tmp 93), (4, Operand.tmp 95)], 22, "outright.go:212", #[⟨7, .data⟩, ⟨15, .data⟩, ⟨23, .data⟩, ⟨31, .data⟩, ⟨33, .data⟩], none⟩) (w' := w1.alloc (.cells #[.string (S.extract 0 i ++ ⟨#[10]⟩ ++ S.extract i S.size), .string (S.extract 0 i ++ ⟨#[127]⟩ ++ S.extract i S.size), .string (S.extract 0 i ++ ⟨#[31]⟩ ++ S.extract i S.size), .string (S.extract 0 i ++ ⟨#[255]⟩ ++ S.extract i S.size), .string ⟨(Lib.repeatL S.data.toList 26).toArray⟩] 9)) (.slice (some ⟨w1.heap.size, 0, none⟩) 5 5) (by kernel_rfl) rfl (by kernel_rfl) (by kernel_rfl) ?_
  refine any_pure 35 (o := ⟨some 97, Op.call { callee := Callee.builtin Builtin.len, args := #[Operand.tmp 96], argTypes := #[22] }, 3, "outright.go:212", #[⟨34, .data⟩], none⟩) (.int .i64 5) (by kernel_rfl) rfl (by kernel_rfl) (by kernel_rfl) ?_
  refine wpAny_done (by kernel_rfl) ?_ _
  simp only [Act.put, List.setIfInBounds_toArray, List.set_cons_succ, List.set_cons_zero]
  exact HK.out _ _ _ _ _ _ _ _ _ _ _ _ _ _ _ _ _ _ _ _ _ _ _ _ _ _ _ _ _ _ _ _ _ _ w1.heap.size _ ⟨Below.trans hbr (Below.trans (hb1.mono hbr.size) ((below_alloc _ _).mono (Nat.le_trans hbr.size hb1.size))), bads_new S i w1 hS⟩
end Go.Proofs.YtandanbojfdfjaaDoor

namespace Go.Proofs.YtandanbojfdfjaaDoor
open Go.ChangeShapes Go.WideShapes Go.ChangeAt Go.RowKit

/-- the block whose body holds region k -/
def blockAt' (k : Nat) : Code → Option Code
  | .seq a b => match blockAt' k a with
    | some c => some c
    | none => blockAt' k b
  | .block i c => match regAt' k c with
    | some _ => some (.block i c)
    | none => none
  | .scope c => blockAt' k c
  | .cond _ a b => match blockAt' k a with
    | some c => some c
    | none => blockAt' k b
  | _ => none
noncomputable def wrL1 : Code := (Tryd.f11.body.bind (blockAt' 12)).getD .skip
noncomputable def wrL2 : Code := (Tryd.f11.body.bind (blockAt' 20)).getD .skip

theorem Sys.text {w0 w : World} {base L D : Nat} {b : Bs} {p : Int} {s : St} (h : Sys w0 w base L D b p s false) (t : ByteArray) (hr : recB t.data.toList = false) :
    Calls Tryd.prog 14 #[.pointer (some ⟨L, 0, none⟩), .string t] w fun e w' => e = .returned (.int .i64 422) ∧ Below w.heap.size w w' := by
  obtain ⟨r, v, _, hL, _⟩ := h.log
  exact app_text L D v s.last s.size t w hL hr
theorem Check_bad (t : ByteArray) (w : World) (hr : recB t.data.toList = false) :
    Calls Tryd.prog 22 #[.int .i64 1, .string t] w fun e w' => e = .returned (.tuple #[.int .i64 0, .int .i64 422]) ∧ Below w.heap.size w w' := by
  have := Check_any 1 t w (by omega) (by omega)
  have e : wrg 1 t.data.toList = 422 := by unfold wrg; rw [if_neg (by omega), hr]; rfl
  have e2 : chkR 1 t.data.toList = (0, 422) := by unfold chkR; rw [e]; rfl
  rw [e2] at this
  exact this
theorem Line_bad (t : ByteArray) (w : World) (hr : recB t.data.toList = false) (hT : Tb w) :
    Calls Tryd.prog 23 #[.int .i64 1, .string t] w fun e w' => e = .returned (.tuple #[.string ⟨#[]⟩, .int .i64 422]) ∧ Below w.heap.size w w' := by
  have := Line_any 1 t w (by omega) (by omega) hT
  have e : wrg 1 t.data.toList = 422 := by unfold wrg; rw [if_neg (by omega), hr]; rfl
  have e2 : linR 1 t.data.toList = ([], 422) := by unfold linR; rw [e]; rfl
  rw [e2] at this
  exact this
theorem Check_out (x : Int) (t : ByteArray) (w : World) (hx : x < 0 ∨ 9973 ≤ x) (hl : -(2^63) ≤ x) (hh : x < 2^63) :
    Calls Tryd.prog 22 #[.int .i64 x, .string t] w fun e w' => e = .returned (.tuple #[.int .i64 0, .int .i64 2]) ∧ Below w.heap.size w w' := by
  have := Check_any x t w hl hh
  have e : wrg x t.data.toList = 2 := by unfold wrg; rw [if_pos hx]
  have e2 : chkR x t.data.toList = (0, 2) := by unfold chkR; rw [e]; rfl
  rw [e2] at this
  exact this
theorem Line_out (x : Int) (t : ByteArray) (w : World) (hx : x < 0 ∨ 9973 ≤ x) (hl : -(2^63) ≤ x) (hh : x < 2^63) (hT : Tb w) :
    Calls Tryd.prog 23 #[.int .i64 x, .string t] w fun e w' => e = .returned (.tuple #[.string ⟨#[]⟩, .int .i64 2]) ∧ Below w.heap.size w w' := by
  have := Line_any x t w hl hh hT
  have e : wrg x t.data.toList = 2 := by unfold wrg; rw [if_pos hx]
  have e2 : linR x t.data.toList = ([], 2) := by unfold linR; rw [e]; rfl
  rw [e2] at this
  exact this
set_option maxRecDepth 1000000 in
set_option maxHeartbeats 16000000 in
theorem wr_L1 (K : Act → World → Prop) (R : Ending → World → Prop) (w00 w0 : World) (base L D g : Nat) (b : Bs) (p : Int) (s : St) (f : Nat → ByteArray) (hg : g < w0.heap.size) (HF : Hid (∀ j, j < 5 → w0.cell? ⟨g, j, none⟩ = some (.string (f j)) ∧ recB (f j).data.toList = false ∧ (f j).size ≤ 1000)) (HSys : Hid (Sys w00 w0 base L D b p s false)) (HT : Hid (Tb w0))
    (u0 u1 u2 u3 u4 u5 u6 u7 u8 u9 u10 u12 u13 u14 u15 u16 u17 u18 u19 u20 u21 u22 u23 u24 u25 u26 u27 u28 u29 u30 u31 u32 u33 u34 u35 u36 u37 u38 u39 u40 u41 u42 u43 u44 u45 u46 u47 u48 u49 u50 u51 u52 u53 u54 u55 u56 u57 u58 u59 u60 u61 u62 u63 u64 u65 u66 u67 u68 u69 u70 u71 u72 u73 u74 u75 u76 u77 u78 u79 u80 u81 u82 u83 u84 u85 u86 u87 u88 u89 u90 u91 u92 u93 u94 u95 u99 u100 u101 u102 u103 u104 u105 u106 u107 u108 u109 u110 u111 u112 u113 u114 u115 u116 u117 u118 u119 u120 u121 u122 u123 u124 u125 u126 u127 u128 u129 u130 u131 u132 u133 u134 u135 u136 u137 u138 u139 u140 u141 u142 u143 u144 u145 u146 u147 u148 u149 u150 u151 u152 u153 u154 u155 u156 u157 u158 u159 u160 u161 u162 u163 u164 u165 u166 u167 u168 u169 u170 u171 u172 u173 u174 u175 u176 u177 u178 u179 u180 u181 u182 u183 u184 u185 u186 u187 u188 u189 u190 u191 u192 u193 u194 u195 u196 u197 u198 u199 u200 u201 u202 u203 u204 u205 u206 u207 u208 u209 u210 u211 u212 u213 u214 u215 u216 u217 u218 u219 u220 u221 u222 u223 u224 u225 u226 u227 u228 u229 u230 u231 : Value)
    (hK : ∀ (x6 x16 x17 x18 x19 x20 x98 x99 x100 x101 x102 x103 x104 x105 x106 x107 x108 x109 x110 x111 x112 x113 x114 x115 x116 x117 x118 x119 x120 x121 x122 x123 x124 x125 x126 x127 x128 : Value) (wx : World), Hid (Below w0.heap.size w0 wx) → K ⟨List.toArray (u0 :: u1 :: u2 :: u3 :: u4 :: u5 :: (x6) :: u7 :: u8 :: u9 :: u10 :: (.pointer (some ⟨L, 0, none⟩)) :: u12 :: u13 :: u14 :: u15 :: (x16) :: (x17) :: (x18) :: (x19) :: (x20) :: u21 :: u22 :: u23 :: u24 :: u25 :: u26 :: u27 :: u28 :: u29 :: u30 :: u31 :: u32 :: u33 :: u34 :: u35 :: u36 :: u37 :: u38 :: u39 :: u40 :: u41 :: u42 :: u43 :: u44 :: u45 :: u46 :: u47 :: u48 :: u49 :: u50 :: u51 :: u52 :: u53 :: u54 :: u55 :: u56 :: u57 :: u58 :: u59 :: u60 :: u61 :: u62 :: u63 :: u64 :: u65 :: u66 :: u67 :: u68 :: u69 :: u70 :: u71 :: u72 :: u73 :: u74 :: u75 :: u76 :: u77 :: u78 :: u79 :: u80 :: u81 :: u82 :: u83 :: u84 :: u85 :: u86 :: u87 :: u88 :: u89 :: u90 :: u91 :: u92 :: u93 :: u94 :: u95 :: (.slice (some ⟨g, 0, none⟩) 5 5) :: (.int .i64 5) :: (x98) :: (x99) :: (x100) :: (x101) :: (x102) :: (x103) :: (x104) :: (x105) :: (x106) :: (x107) :: (x108) :: (x109) :: (x110) :: (x111) :: (x112) :: (x113) :: (x114) :: (x115) :: (x116) :: (x117) :: (x118) :: (x119) :: (x120) :: (x121) :: (x122) :: (x123) :: (x124) :: (x125) :: (x126) :: (x127) :: (x128) :: u129 :: u130 :: u131 :: u132 :: u133 :: u134 :: u135 :: u136 :: u137 :: u138 :: u139 :: u140 :: u141 :: u142 :: u143 :: u144 :: u145 :: u146 :: u147 :: u148 :: u149 :: u150 :: u151 :: u152 :: u153 :: u154 :: u155 :: u156 :: u157 :: u158 :: u159 :: u160 :: u161 :: u162 :: u163 :: u164 :: u165 :: u166 :: u167 :: u168 :: u169 :: u170 :: u171 :: u172 :: u173 :: u174 :: u175 :: u176 :: u177 :: u178 :: u179 :: u180 :: u181 :: u182 :: u183 :: u184 :: u185 :: u186 :: u187 :: u188 :: u189 :: u190 :: u191 :: u192 :: u193 :: u194 :: u195 :: u196 :: u197 :: u198 :: u199 :: u200 :: u201 :: u202 :: u203 :: u204 :: u205 :: u206 :: u207 :: u208 :: u209 :: u210 :: u211 :: u212 :: u213 :: u214 :: u215 :: u216 :: u217 :: u218 :: u219 :: u220 :: u221 :: u222 :: u223 :: u224 :: u225 :: u226 :: u227 :: u228 :: u229 :: u230 :: u231 :: []), []⟩ wx) :
    wrL1.wp Tryd.prog (Exit.then K (bodyPost Tryd.prog Tryd.f11 R)) ⟨List.toArray (u0 :: u1 :: u2 :: u3 :: u4 :: u5 :: u6 :: u7 :: u8 :: u9 :: u10 :: (.pointer (some ⟨L, 0, none⟩)) :: u12 :: u13 :: u14 :: u15 :: u16 :: u17 :: u18 :: u19 :: u20 :: u21 :: u22 :: u23 :: u24 :: u25 :: u26 :: u27 :: u28 :: u29 :: u30 :: u31 :: u32 :: u33 :: u34 :: u35 :: u36 :: u37 :: u38 :: u39 :: u40 :: u41 :: u42 :: u43 :: u44 :: u45 :: u46 :: u47 :: u48 :: u49 :: u50 :: u51 :: u52 :: u53 :: u54 :: u55 :: u56 :: u57 :: u58 :: u59 :: u60 :: u61 :: u62 :: u63 :: u64 :: u65 :: u66 :: u67 :: u68 :: u69 :: u70 :: u71 :: u72 :: u73 :: u74 :: u75 :: u76 :: u77 :: u78 :: u79 :: u80 :: u81 :: u82 :: u83 :: u84 :: u85 :: u86 :: u87 :: u88 :: u89 :: u90 :: u91 :: u92 :: u93 :: u94 :: u95 :: (.slice (some ⟨g, 0, none⟩) 5 5) :: (.int .i64 5) :: (.int .i64 0) :: u99 :: u100 :: u101 :: u102 :: u103 :: u104 :: u105 :: u106 :: u107 :: u108 :: u109 :: u110 :: u111 :: u112 :: u113 :: u114 :: u115 :: u116 :: u117 :: u118 :: u119 :: u120 :: u121 :: u122 :: u123 :: u124 :: u125 :: u126 :: u127 :: u128 :: u129 :: u130 :: u131 :: u132 :: u133 :: u134 :: u135 :: u136 :: u137 :: u138 :: u139 :: u140 :: u141 :: u142 :: u143 :: u144 :: u145 :: u146 :: u147 :: u148 :: u149 :: u150 :: u151 :: u152 :: u153 :: u154 :: u155 :: u156 :: u157 :: u158 :: u159 :: u160 :: u161 :: u162 :: u163 :: u164 :: u165 :: u166 :: u167 :: u168 :: u169 :: u170 :: u171 :: u172 :: u173 :: u174 :: u175 :: u176 :: u177 :: u178 :: u179 :: u180 :: u181 :: u182 :: u183 :: u184 :: u185 :: u186 :: u187 :: u188 :: u189 :: u190 :: u191 :: u192 :: u193 :: u194 :: u195 :: u196 :: u197 :: u198 :: u199 :: u200 :: u201 :: u202 :: u203 :: u204 :: u205 :: u206 :: u207 :: u208 :: u209 :: u210 :: u211 :: u212 :: u213 :: u214 :: u215 :: u216 :: u217 :: u218 :: u219 :: u220 :: u221 :: u222 :: u223 :: u224 :: u225 :: u226 :: u227 :: u228 :: u229 :: u230 :: u231 :: []), []⟩ w0 := by
  have HK := Lib.hid hK
  clear hK
  conv => arg 2; whnf
  go_wp2_with fail
  go_loopw [98] (fun i wr => ∃ k : Nat, k ≤ 5 ∧ i = .int .i64 k ∧ Hid (Below w0.heap.size w0 wr)) (fun i _ => 5 - (intOf i).toNat)
  case atStart => exact ⟨0, by omega, rfl, Lib.hid (Below.refl _ _)⟩
  case round =>
    obtain ⟨k, hk, rfl, HB⟩ := hrel
    by_cases hlt : k < 5
    · obtain ⟨hcell, hrec, hsz⟩ := HF.out k hlt
      generalize f k = t at *
      have hc := (bcell HB.out g k hg).trans hcell
      have HCk := Lib.hid (Check_bad t wr hrec)
      have HLn := fun W h => Lib.hid (Line_bad t W hrec h)
      have HRec := Lib.hid hrec
      clear hcell hrec
      go_wp2_with fail
      refine HCk.out.mono ?_
      rintro e w1 ⟨rfl, hb1⟩
      have HB1 := Lib.hid (HB.out.trans (hb1.mono HB.out.size))
      have HL1 := HLn w1 (HT.out.below HB1.out HT.out.lt)
      clear hb1 HLn HCk hc
      go_wp2_with fail
      refine HL1.out.mono ?_
      rintro e w2 ⟨rfl, hb2⟩
      have HB2 := Lib.hid (HB1.out.trans (hb2.mono HB1.out.size))
      have HTx := Lib.hid ((HSys.out.below HB2.out).text t HRec.out)
      clear hb2 HL1
      go_wp2_with fail
      refine HTx.out.mono ?_
      rintro e w3 ⟨rfl, hb3⟩
      have HB3 := Lib.hid (HB2.out.trans (hb3.mono HB2.out.size))
      clear hb3 HTx
      go_wp2_with fail
      go_roundw
      case rel => exact ⟨k + 1, by omega, by go_num, HB3⟩
      case measure => simp [intOf]; omega
    · obtain rfl : k = 5 := by omega
      go_wp2_with fail
      exact HK.out _ _ _ _ _ _ _ _ _ _ _ _ _ _ _ _ _ _ _ _ _ _ _ _ _ _ _ _ _ _ _ _ _ _ _ _ _ wr HB
set_option maxRecDepth 1000000 in
set_option maxHeartbeats 16000000 in
theorem wr_L2 (K : Act → World → Prop) (R : Ending → World → Prop) (w0 : World) (g : Nat) (S : ByteArray) (f : Nat → Int) (hg : g < w0.heap.size) (HF : Hid (∀ j, j < 2 → w0.cell? ⟨g, j, none⟩ = some (.int .i64 (f j)) ∧ (f j < 0 ∨ 9973 ≤ f j) ∧ -(2^63) ≤ f j ∧ f j < 2^63)) (HT : Hid (Tb w0))
    (u0 u1 u2 u3 u4 u5 u6 u7 u8 u9 u10 u11 u12 u14 u15 u16 u17 u18 u19 u20 u21 u22 u23 u24 u25 u26 u27 u28 u29 u30 u31 u32 u33 u34 u35 u36 u37 u38 u39 u40 u41 u42 u43 u44 u45 u46 u47 u48 u49 u50 u51 u52 u53 u54 u55 u56 u57 u58 u59 u60 u61 u62 u63 u64 u65 u66 u67 u68 u69 u70 u71 u72 u73 u74 u75 u76 u77 u78 u79 u80 u81 u82 u83 u84 u85 u86 u87 u88 u89 u90 u91 u92 u93 u94 u95 u96 u97 u98 u99 u100 u101 u102 u103 u104 u105 u106 u107 u108 u109 u110 u111 u112 u113 u114 u115 u116 u117 u118 u119 u120 u121 u122 u123 u124 u125 u126 u127 u128 u129 u130 u131 u132 u136 u137 u138 u139 u140 u141 u142 u143 u144 u145 u146 u147 u148 u149 u150 u151 u152 u153 u154 u155 u156 u157 u158 u159 u160 u161 u162 u163 u164 u165 u166 u167 u168 u169 u170 u171 u172 u173 u174 u175 u176 u177 u178 u179 u180 u181 u182 u183 u184 u185 u186 u187 u188 u189 u190 u191 u192 u193 u194 u195 u196 u197 u198 u199 u200 u201 u202 u203 u204 u205 u206 u207 u208 u209 u210 u211 u212 u213 u214 u215 u216 u217 u218 u219 u220 u221 u222 u223 u224 u225 u226 u227 u228 u229 u230 u231 : Value)
    (hK : ∀ (x6 x22 x23 x24 x25 x26 x135 x136 x137 x138 x139 x140 x141 x142 x143 x144 x145 x146 x147 x148 x149 x150 x151 x152 x153 x154 x155 x156 x157 : Value) (wx : World), Hid (Below w0.heap.size w0 wx) → K ⟨List.toArray (u0 :: u1 :: u2 :: u3 :: u4 :: u5 :: (x6) :: u7 :: u8 :: u9 :: u10 :: u11 :: u12 :: (.string S) :: u14 :: u15 :: u16 :: u17 :: u18 :: u19 :: u20 :: u21 :: (x22) :: (x23) :: (x24) :: (x25) :: (x26) :: u27 :: u28 :: u29 :: u30 :: u31 :: u32 :: u33 :: u34 :: u35 :: u36 :: u37 :: u38 :: u39 :: u40 :: u41 :: u42 :: u43 :: u44 :: u45 :: u46 :: u47 :: u48 :: u49 :: u50 :: u51 :: u52 :: u53 :: u54 :: u55 :: u56 :: u57 :: u58 :: u59 :: u60 :: u61 :: u62 :: u63 :: u64 :: u65 :: u66 :: u67 :: u68 :: u69 :: u70 :: u71 :: u72 :: u73 :: u74 :: u75 :: u76 :: u77 :: u78 :: u79 :: u80 :: u81 :: u82 :: u83 :: u84 :: u85 :: u86 :: u87 :: u88 :: u89 :: u90 :: u91 :: u92 :: u93 :: u94 :: u95 :: u96 :: u97 :: u98 :: u99 :: u100 :: u101 :: u102 :: u103 :: u104 :: u105 :: u106 :: u107 :: u108 :: u109 :: u110 :: u111 :: u112 :: u113 :: u114 :: u115 :: u116 :: u117 :: u118 :: u119 :: u120 :: u121 :: u122 :: u123 :: u124 :: u125 :: u126 :: u127 :: u128 :: u129 :: u130 :: u131 :: u132 :: (.slice (some ⟨g, 0, none⟩) 2 2) :: (.int .i64 2) :: (x135) :: (x136) :: (x137) :: (x138) :: (x139) :: (x140) :: (x141) :: (x142) :: (x143) :: (x144) :: (x145) :: (x146) :: (x147) :: (x148) :: (x149) :: (x150) :: (x151) :: (x152) :: (x153) :: (x154) :: (x155) :: (x156) :: (x157) :: u158 :: u159 :: u160 :: u161 :: u162 :: u163 :: u164 :: u165 :: u166 :: u167 :: u168 :: u169 :: u170 :: u171 :: u172 :: u173 :: u174 :: u175 :: u176 :: u177 :: u178 :: u179 :: u180 :: u181 :: u182 :: u183 :: u184 :: u185 :: u186 :: u187 :: u188 :: u189 :: u190 :: u191 :: u192 :: u193 :: u194 :: u195 :: u196 :: u197 :: u198 :: u199 :: u200 :: u201 :: u202 :: u203 :: u204 :: u205 :: u206 :: u207 :: u208 :: u209 :: u210 :: u211 :: u212 :: u213 :: u214 :: u215 :: u216 :: u217 :: u218 :: u219 :: u220 :: u221 :: u222 :: u223 :: u224 :: u225 :: u226 :: u227 :: u228 :: u229 :: u230 :: u231 :: []), []⟩ wx) :
    wrL2.wp Tryd.prog (Exit.then K (bodyPost Tryd.prog Tryd.f11 R)) ⟨List.toArray (u0 :: u1 :: u2 :: u3 :: u4 :: u5 :: u6 :: u7 :: u8 :: u9 :: u10 :: u11 :: u12 :: (.string S) :: u14 :: u15 :: u16 :: u17 :: u18 :: u19 :: u20 :: u21 :: u22 :: u23 :: u24 :: u25 :: u26 :: u27 :: u28 :: u29 :: u30 :: u31 :: u32 :: u33 :: u34 :: u35 :: u36 :: u37 :: u38 :: u39 :: u40 :: u41 :: u42 :: u43 :: u44 :: u45 :: u46 :: u47 :: u48 :: u49 :: u50 :: u51 :: u52 :: u53 :: u54 :: u55 :: u56 :: u57 :: u58 :: u59 :: u60 :: u61 :: u62 :: u63 :: u64 :: u65 :: u66 :: u67 :: u68 :: u69 :: u70 :: u71 :: u72 :: u73 :: u74 :: u75 :: u76 :: u77 :: u78 :: u79 :: u80 :: u81 :: u82 :: u83 :: u84 :: u85 :: u86 :: u87 :: u88 :: u89 :: u90 :: u91 :: u92 :: u93 :: u94 :: u95 :: u96 :: u97 :: u98 :: u99 :: u100 :: u101 :: u102 :: u103 :: u104 :: u105 :: u106 :: u107 :: u108 :: u109 :: u110 :: u111 :: u112 :: u113 :: u114 :: u115 :: u116 :: u117 :: u118 :: u119 :: u120 :: u121 :: u122 :: u123 :: u124 :: u125 :: u126 :: u127 :: u128 :: u129 :: u130 :: u131 :: u132 :: (.slice (some ⟨g, 0, none⟩) 2 2) :: (.int .i64 2) :: (.int .i64 0) :: u136 :: u137 :: u138 :: u139 :: u140 :: u141 :: u142 :: u143 :: u144 :: u145 :: u146 :: u147 :: u148 :: u149 :: u150 :: u151 :: u152 :: u153 :: u154 :: u155 :: u156 :: u157 :: u158 :: u159 :: u160 :: u161 :: u162 :: u163 :: u164 :: u165 :: u166 :: u167 :: u168 :: u169 :: u170 :: u171 :: u172 :: u173 :: u174 :: u175 :: u176 :: u177 :: u178 :: u179 :: u180 :: u181 :: u182 :: u183 :: u184 :: u185 :: u186 :: u187 :: u188 :: u189 :: u190 :: u191 :: u192 :: u193 :: u194 :: u195 :: u196 :: u197 :: u198 :: u199 :: u200 :: u201 :: u202 :: u203 :: u204 :: u205 :: u206 :: u207 :: u208 :: u209 :: u210 :: u211 :: u212 :: u213 :: u214 :: u215 :: u216 :: u217 :: u218 :: u219 :: u220 :: u221 :: u222 :: u223 :: u224 :: u225 :: u226 :: u227 :: u228 :: u229 :: u230 :: u231 :: []), []⟩ w0 := by
  have HK := Lib.hid hK
  clear hK
  conv => arg 2; whnf
  go_wp2_with fail
  go_loopw [135] (fun i wr => ∃ k : Nat, k ≤ 2 ∧ i = .int .i64 k ∧ Hid (Below w0.heap.size w0 wr)) (fun i _ => 2 - (intOf i).toNat)
  case atStart => exact ⟨0, by omega, rfl, Lib.hid (Below.refl _ _)⟩
  case round =>
    obtain ⟨k, hk, rfl, HB⟩ := hrel
    by_cases hlt : k < 2
    · obtain ⟨hcell, hx, hl, hh⟩ := HF.out k hlt
      generalize f k = x at *
      have hc := (bcell HB.out g k hg).trans hcell
      have HCk := Lib.hid (Check_out x S wr hx hl hh)
      have HLn := fun W h => Lib.hid (Line_out x S W hx hl hh h)
      clear hcell hx
      go_wp2_with fail
      refine HCk.out.mono ?_
      rintro e w1 ⟨rfl, hb1⟩
      have HB1 := Lib.hid (HB.out.trans (hb1.mono HB.out.size))
      have HL1 := HLn w1 (HT.out.below HB1.out HT.out.lt)
      clear hb1 HLn HCk hc
      go_wp2_with fail
      refine HL1.out.mono ?_
      rintro e w2 ⟨rfl, hb2⟩
      have HB2 := Lib.hid (HB1.out.trans (hb2.mono HB1.out.size))
      clear hb2 HL1
      go_wp2_with fail
      go_roundw
      case rel => exact ⟨k + 1, by omega, by go_num, HB2⟩
      case measure => simp [intOf]; omega
    · obtain rfl : k = 2 := by omega
      go_wp2_with fail
      exact HK.out _ _ _ _ _ _ _ _ _ _ _ _ _ _ _ _ _ _ _ _ _ _ _ _ _ _ _ _ _ wr HB
end Go.Proofs.YtandanbojfdfjaaDoor

namespace Go.Proofs.YtandanbojfdfjaaDoor
open Go.ChangeShapes Go.WideShapes Go.ChangeAt Go.RowKit
noncomputable def wr27 : Code := (Tryd.f11.body.bind (regAt' 27)).getD .skip

/-- the disk's bytes lie in a block of the call's own -/
def FrD (w0 w : World) (D : Nat) (b : Bs) (p : Int) : Prop := ∃ v, Blk w D 28 (dsk v p) ∧ By w v b ∧ ∀ k, v.ownBlock = some k → w0.heap.size ≤ k
theorem FrD.below {w0 w w' : World} {D : Nat} {b : Bs} {p : Int} (h : FrD w0 w D b p) (hb : Below w.heap.size w w') : FrD w0 w' D b p := by
  obtain ⟨v, h1, h2, h3⟩ := h
  exact ⟨v, (hb.block _ h1.lt).trans h1, h2.below hb, h3⟩
theorem Sys.of_app {w0 w w' : World} {base L D : Nat} {b : Bs} {p : Int} {s : St} {cl : Bool} {r : Option Nat} {res : Nat × Bs × Int × St × Bool} {e : Ending} (h : Sys w0 w base L D b p s cl) (hlog : LogAt w base L D r s cl) (ha : AppP w base L D r res e w') :
    e = .returned (.int .i64 res.1) ∧ Sys w0 w' base L D res.2.1 res.2.2.1 res.2.2.2.1 res.2.2.2.2 := by
  obtain ⟨he, hd, ⟨r', hl', _⟩, hk⟩ := ha
  have := h.base0; have := h.D0; have := h.L0
  refine ⟨he, ⟨hd, ⟨r', hl'⟩, hk.below h.bel ?_, h.base0, h.D0, h.L0, Nat.le_trans h.base1 hk.size⟩⟩
  rintro k (e | e | e)
  · omega
  · omega
  · exact Nat.le_trans h.base0 (hlog.ge k e)
theorem wr_app1 {w0 w : World} {base L D M : Nat} {b : Bs} {s : St} {l : List Bs} (h : Sys w0 w base L D b 0 s false) (hT : Tb w0) (S : ByteArray) (hr : recB S.data.toList = true) (hb : b.length ≤ 1320) (hs : s.last < 9973 ∧ s.size ≤ 2000 ∧ s.recs = l ∧ l.length = M) :
    Calls Tryd.prog 14 #[.pointer (some ⟨L, 0, none⟩), .string S] w fun e w' => e = .returned (.int .i64 420) ∧ Sys w0 w' base L D b 0 s true ∧ FrD w0 w' D b 0 := by
  have hl := recB_le hr
  have hl2 := hl
  rw [len_toList] at hl2
  have hu : ∀ n, useR 0 n = 0 := fun n => by unfold useR; simp
  have hv : ∀ n, useL 0 n = 0 := fun n => by unfold useL; simp
  have ha : appR b 0 s false S.data.toList = (420, b, 0, s, true) := by
    unfold appR
    rw [if_neg (by decide), if_neg (by rw [hr]; decide), if_neg (by omega), hu, if_pos (by omega), hv]
    simp
  obtain ⟨r, hlog⟩ := h.log
  have h2 := hT.lt
  have := h.D0
  have := app_short base L D r s b 0 S w hlog h.disk hr hs.1 (by omega) (by omega) (by omega) (hT.below h.bel hT.lt) (by omega) (by rw [hu]; omega)
  rw [ha] at this
  refine this.mono fun e w' ⟨h1, v, h3, h4, h5⟩ => ?_
  obtain ⟨h6, h7⟩ := h.of_app hlog h1
  exact ⟨h6, h7, v, h3, h4, fun k hk => Nat.le_trans h.bel.size (h5 k hk)⟩
theorem wr_app2 {w0 w : World} {base L D N c2 : Nat} {b : Bs} {s : St} {X : ByteArray} {A2 : Option Addr} (h : Sys w0 w base L D b 0 s true) (S : ByteArray) (hX : X = ⟨b.toArray⟩) (hcv : ∀ W, Below w0.heap.size w0 W → (convert 26 9 (.slice A2 N c2)).run Tryd.prog W = .ok (.string X) W) :
    Calls Tryd.prog 14 #[.pointer (some ⟨L, 0, none⟩), .string S] w fun e w' => e = .returned (.int .i64 423) ∧ w = w' ∧ ∃ A3 c3, w'.cell? ⟨D, 0, none⟩ = some (.slice A3 b.length c3) ∧ (convert 26 9 (.slice A3 b.length c3)).run Tryd.prog w' = .ok (.string X) w' ∧ (convert 26 9 (.slice A2 N c2)).run Tryd.prog w' = .ok (.string X) w' := by
  obtain ⟨r, v, _, hL, _⟩ := h.log
  refine (app_closed L D v s.last s.size S w hL).mono ?_
  rintro e w' ⟨rfl, rfl⟩
  obtain ⟨A, c, q0, _, q1, _⟩ := h.disk.bytes
  exact ⟨rfl, rfl, A, c, q0, by rw [hX]; exact q1, hcv w h.bel⟩
theorem wr_recs {w0 w : World} {base L D M : Nat} {b : Bs} {s : St} {l : List Bs} (h : Sys w0 w base L D b 0 s true) (hs : s.last < 9973 ∧ s.size ≤ 2000 ∧ s.recs = l ∧ l.length = M) (hM : M ≤ 20) :
    Calls Tryd.prog 16 #[.pointer (some ⟨L, 0, none⟩)] w fun e w' => ∃ a c, e = .returned (.slice a M c) ∧ Rd w' w'.heap.size a (scs l) ∧ Below w.heap.size w w' := by
  have := h.records (by rw [hs.2.2.1, hs.2.2.2]; omega)
  rw [hs.2.2.1, hs.2.2.2] at this
  exact this
theorem wr_sameR {w0 w w' : World} {base L D M c8 c1 : Nat} {b : Bs} {s : St} {l : List Bs} {a8 A1 : Option Addr} (r8 : Rd w' w'.heap.size a8 (scs l)) (b8 : Below w.heap.size w w') (hl : Rd w0 w0.heap.size A1 (scs l)) (h : Sys w0 w base L D b 0 s true) (hM : M ≤ 20) (hlen : l.length = M) :
    Calls Tryd.prog 15 #[.slice a8 M c8, .slice A1 M c1] w' fun e w'' => e = .returned (.bool true) ∧ Below w.heap.size w w'' := by
  have hb := h.bel.trans (b8.mono h.bel.size)
  refine (same_num (c := c8) (d := c1) (xs := l) (ys := l) (n := M) (m := M) (r := true) (w0 := w) r8 (hl.keep hb hb.size) b8 hlen hlen (by omega) (by omega) (by simp)).mono ?_
  rintro e w'' ⟨h1, _, h2⟩
  exact ⟨h1, h2⟩
set_option maxRecDepth 1000000 in
set_option maxHeartbeats 16000000 in
theorem wr_27 (K : Act → World → Prop) (K2 : Act → World → Prop) (R : Ending → World → Prop) (w0 wz : World) (l : List Bs) (b : Bs) (s : St) (X : ByteArray) (S : ByteArray) (A1 A2 : Option Addr) (base L D c1 c2 M N : Nat) (hrS : recB S.data.toList = true) (hbl : b.length ≤ 1320) (hM : M ≤ 20) (HX : Hid (X = ⟨b.toArray⟩)) (HRs : Hid (s.last < 9973 ∧ s.size ≤ 2000 ∧ s.recs = l ∧ l.length = M)) (HSy : Hid (Sys w0 wz base L D b 0 s false)) (HT : Hid (Tb w0)) (HRl : Hid (Rd w0 w0.heap.size A1 (scs l)))
    (HCv : Hid (∀ W, Below w0.heap.size w0 W → (convert 26 9 (.slice A2 N c2)).run Tryd.prog W = .ok (.string X) W))
    (u1 u2 u3 u4 u5 u6 u8 u9 u12 u14 u15 u16 u17 u18 u19 u20 u21 u22 u23 u24 u25 u26 u27 u28 u29 u30 u31 u32 u33 u34 u35 u36 u37 u38 u39 u40 u41 u42 u43 u44 u45 u46 u47 u48 u49 u50 u51 u52 u53 u54 u55 u56 u57 u58 u59 u60 u61 u62 u63 u64 u65 u66 u67 u68 u69 u70 u71 u72 u73 u74 u75 u76 u77 u78 u79 u80 u81 u82 u83 u84 u85 u86 u87 u88 u89 u90 u91 u92 u93 u94 u95 u96 u97 u98 u99 u100 u101 u102 u103 u104 u105 u106 u107 u108 u109 u110 u111 u112 u113 u114 u115 u116 u117 u118 u119 u120 u121 u122 u123 u124 u125 u126 u127 u128 u129 u130 u131 u132 u133 u134 u135 u136 u137 u138 u139 u140 u141 u142 u143 u144 u145 u146 u147 u148 u149 u150 u151 u152 u153 u154 u155 u156 u157 u158 u159 u160 u161 u162 u163 u164 u165 u166 u167 u168 u169 u170 u171 u172 u173 u174 u175 u176 u177 u178 u179 u180 u181 u182 u183 u184 u185 u186 u187 u188 u189 u190 u191 u192 u193 u194 u195 u196 u197 u198 u199 u200 u201 u202 u203 u204 u205 u206 u207 u208 u209 u210 u211 u212 u213 u214 u215 u216 u217 u218 u219 u220 u221 u222 u223 u224 u225 u226 u227 u228 u229 u230 u231 : Value)
    (hK : ∀ (x158 x159 x160 x161 x162 x163 x164 x165 x166 x167 x168 x169 x170 x171 x172 x173 x174 x175 x176 x177 x178 x179 x180 x181 x182 x183 : Value) (wx : World), Hid (Sys w0 wx base L D b 0 s true ∧ FrD w0 wx D b 0) → K ⟨List.toArray ((.slice A1 M c1) :: u1 :: u2 :: u3 :: u4 :: u5 :: u6 :: (.slice A2 N c2) :: u8 :: u9 :: (.pointer (some ⟨D, 0, none⟩)) :: (.pointer (some ⟨L, 0, none⟩)) :: u12 :: (.string S) :: u14 :: u15 :: u16 :: u17 :: u18 :: u19 :: u20 :: u21 :: u22 :: u23 :: u24 :: u25 :: u26 :: u27 :: u28 :: u29 :: u30 :: u31 :: u32 :: u33 :: u34 :: u35 :: u36 :: u37 :: u38 :: u39 :: u40 :: u41 :: u42 :: u43 :: u44 :: u45 :: u46 :: u47 :: u48 :: u49 :: u50 :: u51 :: u52 :: u53 :: u54 :: u55 :: u56 :: u57 :: u58 :: u59 :: u60 :: u61 :: u62 :: u63 :: u64 :: u65 :: u66 :: u67 :: u68 :: u69 :: u70 :: u71 :: u72 :: u73 :: u74 :: u75 :: u76 :: u77 :: u78 :: u79 :: u80 :: u81 :: u82 :: u83 :: u84 :: u85 :: u86 :: u87 :: u88 :: u89 :: u90 :: u91 :: u92 :: u93 :: u94 :: u95 :: u96 :: u97 :: u98 :: u99 :: u100 :: u101 :: u102 :: u103 :: u104 :: u105 :: u106 :: u107 :: u108 :: u109 :: u110 :: u111 :: u112 :: u113 :: u114 :: u115 :: u116 :: u117 :: u118 :: u119 :: u120 :: u121 :: u122 :: u123 :: u124 :: u125 :: u126 :: u127 :: u128 :: u129 :: u130 :: u131 :: u132 :: u133 :: u134 :: u135 :: u136 :: u137 :: u138 :: u139 :: u140 :: u141 :: u142 :: u143 :: u144 :: u145 :: u146 :: u147 :: u148 :: u149 :: u150 :: u151 :: u152 :: u153 :: u154 :: u155 :: u156 :: u157 :: (x158) :: (x159) :: (x160) :: (x161) :: (x162) :: (x163) :: (x164) :: (x165) :: (x166) :: (x167) :: (x168) :: (x169) :: (x170) :: (x171) :: (x172) :: (x173) :: (x174) :: (x175) :: (x176) :: (x177) :: (x178) :: (x179) :: (x180) :: (x181) :: (x182) :: (x183) :: (.bool false) :: u185 :: u186 :: u187 :: u188 :: u189 :: u190 :: u191 :: u192 :: u193 :: u194 :: u195 :: u196 :: u197 :: u198 :: u199 :: u200 :: u201 :: u202 :: u203 :: u204 :: u205 :: u206 :: u207 :: u208 :: u209 :: u210 :: u211 :: u212 :: u213 :: u214 :: u215 :: u216 :: u217 :: u218 :: u219 :: u220 :: u221 :: u222 :: u223 :: u224 :: u225 :: u226 :: u227 :: u228 :: u229 :: u230 :: u231 :: []), []⟩ wx) :
    wr27.wp Tryd.prog (Exit.then K (Exit.then K2 (bodyPost Tryd.prog Tryd.f11 R))) ⟨List.toArray ((.slice A1 M c1) :: u1 :: u2 :: u3 :: u4 :: u5 :: u6 :: (.slice A2 N c2) :: u8 :: u9 :: (.pointer (some ⟨D, 0, none⟩)) :: (.pointer (some ⟨L, 0, none⟩)) :: u12 :: (.string S) :: u14 :: u15 :: u16 :: u17 :: u18 :: u19 :: u20 :: u21 :: u22 :: u23 :: u24 :: u25 :: u26 :: u27 :: u28 :: u29 :: u30 :: u31 :: u32 :: u33 :: u34 :: u35 :: u36 :: u37 :: u38 :: u39 :: u40 :: u41 :: u42 :: u43 :: u44 :: u45 :: u46 :: u47 :: u48 :: u49 :: u50 :: u51 :: u52 :: u53 :: u54 :: u55 :: u56 :: u57 :: u58 :: u59 :: u60 :: u61 :: u62 :: u63 :: u64 :: u65 :: u66 :: u67 :: u68 :: u69 :: u70 :: u71 :: u72 :: u73 :: u74 :: u75 :: u76 :: u77 :: u78 :: u79 :: u80 :: u81 :: u82 :: u83 :: u84 :: u85 :: u86 :: u87 :: u88 :: u89 :: u90 :: u91 :: u92 :: u93 :: u94 :: u95 :: u96 :: u97 :: u98 :: u99 :: u100 :: u101 :: u102 :: u103 :: u104 :: u105 :: u106 :: u107 :: u108 :: u109 :: u110 :: u111 :: u112 :: u113 :: u114 :: u115 :: u116 :: u117 :: u118 :: u119 :: u120 :: u121 :: u122 :: u123 :: u124 :: u125 :: u126 :: u127 :: u128 :: u129 :: u130 :: u131 :: u132 :: u133 :: u134 :: u135 :: u136 :: u137 :: u138 :: u139 :: u140 :: u141 :: u142 :: u143 :: u144 :: u145 :: u146 :: u147 :: u148 :: u149 :: u150 :: u151 :: u152 :: u153 :: u154 :: u155 :: u156 :: u157 :: u158 :: u159 :: u160 :: u161 :: u162 :: u163 :: u164 :: u165 :: u166 :: u167 :: u168 :: u169 :: u170 :: u171 :: u172 :: u173 :: u174 :: u175 :: u176 :: u177 :: u178 :: u179 :: u180 :: u181 :: u182 :: u183 :: u184 :: u185 :: u186 :: u187 :: u188 :: u189 :: u190 :: u191 :: u192 :: u193 :: u194 :: u195 :: u196 :: u197 :: u198 :: u199 :: u200 :: u201 :: u202 :: u203 :: u204 :: u205 :: u206 :: u207 :: u208 :: u209 :: u210 :: u211 :: u212 :: u213 :: u214 :: u215 :: u216 :: u217 :: u218 :: u219 :: u220 :: u221 :: u222 :: u223 :: u224 :: u225 :: u226 :: u227 :: u228 :: u229 :: u230 :: u231 :: []), []⟩ wz := by
  have HK := Lib.hid hK
  clear hK
  conv => arg 2; whnf
  refine wp_region_any (by kernel_rfl) ?_
  change wpAny _ _ _ _ _ _ _ (World.drew _)
  have HSys := Lib.hid (HSy.out.below (Below.refl wz.heap.size wz).drew)
  generalize wz.drew = wq at *
  refine wpAny_take (i := 0) (oi := ⟨some 158, Op.move (Operand.tmp 11), 29, "outright.go:226", #[], none⟩) (v := (.pointer (some ⟨L, 0, none⟩))) rfl (by kernel_rfl) (by kernel_rfl) (by kernel_rfl) (fun _ _ _ h => h) (Or.inl ⟨by kernel_rfl, fun _ => (by kernel_rfl)⟩) ?_
  refine any_pure 1 (o := ⟨some 159, Op.move (Operand.tmp 13), 9, "outright.go:226", #[], none⟩) (.string S) (by kernel_rfl) rfl (by kernel_rfl) (by kernel_rfl) ?_
  refine any_call 2 (o := ⟨some 160, Op.call { callee := Callee.value (Operand.func 14), args := #[Operand.tmp 158, Operand.tmp 159], argTypes := #[29, 9] }, 30, "outright.go:226", #[⟨0, .data⟩, ⟨1, .data⟩], none⟩) 14 _ _ #[(.pointer (some ⟨L, 0, none⟩)), (.string S)] (by kernel_rfl) rfl (by kernel_rfl) rfl (by kernel_rfl) en14 (Calls.mono (wr_app1 HSys.out HT.out S hrS hbl HRs.out) ?_)
  rintro e W1 ⟨rfl, k1, fr1⟩
  refine ⟨_, rfl, ?_⟩
  have K1 := Lib.hid k1
  have Fr1 := Lib.hid fr1
  clear fr1
  refine any_pure 3 (o := ⟨some 161, Op.binOp BinOp.neq 30 (Operand.tmp 160) (Operand.const (Value.int IntKind.i64 420)) 30, 4, "outright.go:226", #[⟨2, .data⟩], none⟩) (.bool false) (by kernel_rfl) rfl (by kernel_rfl) (by kernel_rfl) ?_
  refine any_pure 4 (o := ⟨some 162, Op.move (Operand.tmp 161), 4, "outright.go:226", #[⟨3, .data⟩, ⟨2, .chain⟩], none⟩) (.bool false) (by kernel_rfl) rfl (by kernel_rfl) (by kernel_rfl) ?_
  refine wpAny_take (i := 5) (oi := ⟨some 163, Op.move (Operand.tmp 11), 29, "outright.go:226", #[⟨4, .guard⟩], some (4, false)⟩) (v := (.pointer (some ⟨L, 0, none⟩))) rfl (by kernel_rfl) (by kernel_rfl) (by kernel_rfl) (fun _ _ _ h => h) (Or.inl ⟨by kernel_rfl, fun _ => (by kernel_rfl)⟩) ?_
  refine any_pure 6 (o := ⟨some 164, Op.move (Operand.tmp 13), 9, "outright.go:226", #[⟨4, .guard⟩], some (4, false)⟩) (.string S) (by kernel_rfl) rfl (by kernel_rfl) (by kernel_rfl) ?_
  refine any_call 7 (o := ⟨some 165, Op.call { callee := Callee.value (Operand.func 14), args := #[Operand.tmp 163, Operand.tmp 164], argTypes := #[29, 9] }, 30, "outright.go:226", #[⟨5, .data⟩, ⟨6, .data⟩, ⟨4, .chain⟩, ⟨4, .guard⟩], some (4, false)⟩) 14 _ _ #[(.pointer (some ⟨L, 0, none⟩)), (.string S)] (by kernel_rfl) rfl (by kernel_rfl) rfl (by kernel_rfl) en14 (Calls.mono (wr_app2 K1.out S HX.out HCv.out) ?_)
  rintro e W2 ⟨rfl, rfl, A3, c3, q0, q1, q2⟩
  refine ⟨_, rfl, ?_⟩
  refine any_pure 8 (o := ⟨some 166, Op.binOp BinOp.neq 30 (Operand.tmp 165) (Operand.const (Value.int IntKind.i64 423)) 30, 4, "outright.go:226", #[⟨7, .data⟩, ⟨4, .guard⟩], some (4, false)⟩) (.bool false) (by kernel_rfl) rfl (by kernel_rfl) (by kernel_rfl) ?_
  refine any_pure 9 (o := ⟨some 167, Op.pick (Operand.tmp 162) (Operand.const (Value.bool true)) (Operand.tmp 166), 4, "outright.go:226", #[⟨4, .data⟩, ⟨8, .data⟩], none⟩) (.bool false) (by kernel_rfl) rfl (by kernel_rfl) (by kernel_rfl) ?_
  refine any_pure 10 (o := ⟨some 168, Op.move (Operand.tmp 167), 4, "outright.go:226", #[⟨9, .data⟩, ⟨7, .chain⟩], none⟩) (.bool false) (by kernel_rfl) rfl (by kernel_rfl) (by kernel_rfl) ?_
  refine wpAny_take (i := 11) (oi := ⟨some 169, Op.move (Operand.tmp 10), 25, "outright.go:226", #[⟨10, .guard⟩], some (10, false)⟩) (v := (.pointer (some ⟨D, 0, none⟩))) rfl (by kernel_rfl) (by kernel_rfl) (by kernel_rfl) (fun _ _ _ h => h) (Or.inl ⟨by kernel_rfl, fun _ => (by kernel_rfl)⟩) ?_
  refine wpAny_take (i := 12) (oi := ⟨some 170, Op.nilCheck (Operand.tmp 169), 0, "outright.go:226", #[⟨11, .data⟩, ⟨10, .guard⟩], some (10, false)⟩) (v := (.pointer (some ⟨D, 0, none⟩))) rfl (by kernel_rfl) (by kernel_rfl) (by kernel_rfl) (fun _ _ _ h => h) (Or.inl ⟨by kernel_rfl, fun _ => (by kernel_rfl)⟩) ?_
  refine wpAny_take (i := 13) (oi := ⟨some 171, Op.fieldAddr 28 (Operand.tmp 170) 0, 0, "outright.go:226", #[⟨12, .data⟩, ⟨10, .guard⟩], some (10, false)⟩) (v := (.pointer (some ⟨D, 0, none⟩))) rfl (by kernel_rfl) (by kernel_rfl) (by kernel_rfl) (fun _ _ _ h => h) (Or.inl ⟨by kernel_rfl, fun _ => (by kernel_rfl)⟩) ?_
  refine wpAny_take (i := 16) (oi := ⟨some 174, Op.move (Operand.tmp 7), 26, "outright.go:226", #[⟨10, .guard⟩], some (10, false)⟩) (v := (.slice A2 N c2)) rfl (by kernel_rfl) (by kernel_rfl) (by kernel_rfl) (fun _ _ _ h => h) (Or.inl ⟨by kernel_rfl, fun _ => (by kernel_rfl)⟩) ?_
  refine any_val_val 14 17 (o := ⟨some 172, Op.load 26 (Operand.tmp 171), 26, "outright.go:226", #[⟨13, .data⟩, ⟨10, .guard⟩], some (10, false)⟩) (o' := ⟨some 175, Op.convert 26 9 (Operand.tmp 174), 9, "outright.go:226", #[⟨16, .data⟩, ⟨10, .guard⟩], some (10, false)⟩) (.slice A3 b.length c3) (.string X) (by kernel_rfl) rfl rfl (by kernel_rfl) (by kernel_rfl) (ex_load _ _ _ rfl (by kernel_rfl) (by kernel_rfl) q0) (ex_conv _ _ _ rfl (by kernel_rfl) q2) ?_ ?_
  · skip
    refine any_val_val 15 17 (o := ⟨some 173, Op.convert 26 9 (Operand.tmp 172), 9, "outright.go:226", #[⟨14, .data⟩, ⟨10, .guard⟩], some (10, false)⟩) (o' := ⟨some 175, Op.convert 26 9 (Operand.tmp 174), 9, "outright.go:226", #[⟨16, .data⟩, ⟨10, .guard⟩], some (10, false)⟩) (.string X) (.string X) (by kernel_rfl) rfl rfl (by kernel_rfl) (by kernel_rfl) (ex_conv _ _ _ rfl (by kernel_rfl) q1) (ex_conv _ _ _ rfl (by kernel_rfl) q2) ?_ ?_
    · skip
      refine any_conv 17 (o := ⟨some 175, Op.convert 26 9 (Operand.tmp 174), 9, "outright.go:226", #[⟨16, .data⟩, ⟨10, .guard⟩], some (10, false)⟩) _ _ (.string X) (by kernel_rfl) rfl (by kernel_rfl) rfl (by kernel_rfl) q2 ?_
      refine any_pure 18 (o := ⟨some 176, Op.binOp BinOp.neq 9 (Operand.tmp 173) (Operand.tmp 175) 9, 4, "outright.go:226", #[⟨15, .data⟩, ⟨17, .data⟩, ⟨10, .guard⟩], some (10, false)⟩) (.bool false) (by kernel_rfl) rfl (by kernel_rfl) (ex_bin rfl (by kernel_rfl) (by kernel_rfl) (by kernel_rfl) (bin_neq_str X X _ false (by simp))) ?_
      refine any_pure 19 (o := ⟨some 177, Op.pick (Operand.tmp 168) (Operand.const (Value.bool true)) (Operand.tmp 176), 4, "outright.go:226", #[⟨10, .data⟩, ⟨18, .data⟩], none⟩) (.bool false) (by kernel_rfl) rfl (by kernel_rfl) (by kernel_rfl) ?_
      refine any_pure 20 (o := ⟨some 178, Op.move (Operand.tmp 177), 4, "outright.go:226", #[⟨19, .data⟩, ⟨10, .chain⟩], none⟩) (.bool false) (by kernel_rfl) rfl (by kernel_rfl) (by kernel_rfl) ?_
      refine wpAny_take (i := 21) (oi := ⟨some 179, Op.move (Operand.tmp 11), 29, "outright.go:226", #[⟨20, .guard⟩], some (20, false)⟩) (v := (.pointer (some ⟨L, 0, none⟩))) rfl (by kernel_rfl) (by kernel_rfl) (by kernel_rfl) (fun _ _ _ h => h) (Or.inl ⟨by kernel_rfl, fun _ => (by kernel_rfl)⟩) ?_
      refine wpAny_take (i := 23) (oi := ⟨some 181, Op.move (Operand.tmp 0), 22, "outright.go:226", #[⟨20, .guard⟩], some (20, false)⟩) (v := (.slice A1 M c1)) rfl (by kernel_rfl) (by kernel_rfl) (by kernel_rfl) (fun _ _ _ h => h) (Or.inl ⟨by kernel_rfl, fun _ => (by kernel_rfl)⟩) ?_
      refine any_call 22 (o := ⟨some 180, Op.call { callee := Callee.value (Operand.func 16), args := #[Operand.tmp 179], argTypes := #[29] }, 22, "outright.go:226", #[⟨21, .data⟩, ⟨20, .chain⟩, ⟨20, .guard⟩], some (20, false)⟩) 16 _ _ #[(.pointer (some ⟨L, 0, none⟩))] (by kernel_rfl) rfl (by kernel_rfl) rfl (by kernel_rfl) en16 (Calls.mono (wr_recs K1.out HRs.out hM) ?_)
      rintro e W3 ⟨a8, c8, rfl, r8, b8⟩
      refine ⟨_, rfl, ?_⟩
      refine any_call 24 (o := ⟨some 182, Op.call { callee := Callee.value (Operand.func 15), args := #[Operand.tmp 180, Operand.tmp 181], argTypes := #[22, 22] }, 4, "outright.go:226", #[⟨22, .data⟩, ⟨23, .data⟩, ⟨22, .chain⟩, ⟨20, .guard⟩], some (20, false)⟩) 15 _ _ #[(.slice a8 M c8), (.slice A1 M c1)] (by kernel_rfl) rfl (by kernel_rfl) rfl (by kernel_rfl) en15 (Calls.mono (wr_sameR r8 b8 HRl.out K1.out hM HRs.out.2.2.2) ?_)
      rintro e W4 ⟨rfl, b9⟩
      refine ⟨_, rfl, ?_⟩
      refine any_pure 25 (o := ⟨some 183, Op.unOp UnOp.not 4 (Operand.tmp 182), 4, "outright.go:226", #[⟨24, .data⟩, ⟨20, .guard⟩], some (20, false)⟩) (.bool false) (by kernel_rfl) rfl (by kernel_rfl) (by kernel_rfl) ?_
      refine any_pure 26 (o := ⟨some 184, Op.pick (Operand.tmp 178) (Operand.const (Value.bool true)) (Operand.tmp 183), 4, "outright.go:226", #[⟨20, .data⟩, ⟨25, .data⟩], none⟩) (.bool false) (by kernel_rfl) rfl (by kernel_rfl) (by kernel_rfl) ?_
      refine wpAny_done (by kernel_rfl) ?_ _
      simp only [Act.put, List.setIfInBounds_toArray, List.set_cons_succ, List.set_cons_zero]
      exact HK.out _ _ _ _ _ _ _ _ _ _ _ _ _ _ _ _ _ _ _ _ _ _ _ _ _ _ W4 (Lib.hid ⟨K1.out.below b9, Fr1.out.below b9⟩)
    · skip
      refine any_conv 15 (o := ⟨some 173, Op.convert 26 9 (Operand.tmp 172), 9, "outright.go:226", #[⟨14, .data⟩, ⟨10, .guard⟩], some (10, false)⟩) _ _ (.string X) (by kernel_rfl) rfl (by kernel_rfl) rfl (by kernel_rfl) q1 ?_
      refine any_pure 18 (o := ⟨some 176, Op.binOp BinOp.neq 9 (Operand.tmp 173) (Operand.tmp 175) 9, 4, "outright.go:226", #[⟨15, .data⟩, ⟨17, .data⟩, ⟨10, .guard⟩], some (10, false)⟩) (.bool false) (by kernel_rfl) rfl (by kernel_rfl) (ex_bin rfl (by kernel_rfl) (by kernel_rfl) (by kernel_rfl) (bin_neq_str X X _ false (by simp))) ?_
      refine any_pure 19 (o := ⟨some 177, Op.pick (Operand.tmp 168) (Operand.const (Value.bool true)) (Operand.tmp 176), 4, "outright.go:226", #[⟨10, .data⟩, ⟨18, .data⟩], none⟩) (.bool false) (by kernel_rfl) rfl (by kernel_rfl) (by kernel_rfl) ?_
      refine any_pure 20 (o := ⟨some 178, Op.move (Operand.tmp 177), 4, "outright.go:226", #[⟨19, .data⟩, ⟨10, .chain⟩], none⟩) (.bool false) (by kernel_rfl) rfl (by kernel_rfl) (by kernel_rfl) ?_
      refine wpAny_take (i := 21) (oi := ⟨some 179, Op.move (Operand.tmp 11), 29, "outright.go:226", #[⟨20, .guard⟩], some (20, false)⟩) (v := (.pointer (some ⟨L, 0, none⟩))) rfl (by kernel_rfl) (by kernel_rfl) (by kernel_rfl) (fun _ _ _ h => h) (Or.inl ⟨by kernel_rfl, fun _ => (by kernel_rfl)⟩) ?_
      refine wpAny_take (i := 23) (oi := ⟨some 181, Op.move (Operand.tmp 0), 22, "outright.go:226", #[⟨20, .guard⟩], some (20, false)⟩) (v := (.slice A1 M c1)) rfl (by kernel_rfl) (by kernel_rfl) (by kernel_rfl) (fun _ _ _ h => h) (Or.inl ⟨by kernel_rfl, fun _ => (by kernel_rfl)⟩) ?_
      refine any_call 22 (o := ⟨some 180, Op.call { callee := Callee.value (Operand.func 16), args := #[Operand.tmp 179], argTypes := #[29] }, 22, "outright.go:226", #[⟨21, .data⟩, ⟨20, .chain⟩, ⟨20, .guard⟩], some (20, false)⟩) 16 _ _ #[(.pointer (some ⟨L, 0, none⟩))] (by kernel_rfl) rfl (by kernel_rfl) rfl (by kernel_rfl) en16 (Calls.mono (wr_recs K1.out HRs.out hM) ?_)
      rintro e W3 ⟨a8, c8, rfl, r8, b8⟩
      refine ⟨_, rfl, ?_⟩
      refine any_call 24 (o := ⟨some 182, Op.call { callee := Callee.value (Operand.func 15), args := #[Operand.tmp 180, Operand.tmp 181], argTypes := #[22, 22] }, 4, "outright.go:226", #[⟨22, .data⟩, ⟨23, .data⟩, ⟨22, .chain⟩, ⟨20, .guard⟩], some (20, false)⟩) 15 _ _ #[(.slice a8 M c8), (.slice A1 M c1)] (by kernel_rfl) rfl (by kernel_rfl) rfl (by kernel_rfl) en15 (Calls.mono (wr_sameR r8 b8 HRl.out K1.out hM HRs.out.2.2.2) ?_)
      rintro e W4 ⟨rfl, b9⟩
      refine ⟨_, rfl, ?_⟩
      refine any_pure 25 (o := ⟨some 183, Op.unOp UnOp.not 4 (Operand.tmp 182), 4, "outright.go:226", #[⟨24, .data⟩, ⟨20, .guard⟩], some (20, false)⟩) (.bool false) (by kernel_rfl) rfl (by kernel_rfl) (by kernel_rfl) ?_
      refine any_pure 26 (o := ⟨some 184, Op.pick (Operand.tmp 178) (Operand.const (Value.bool true)) (Operand.tmp 183), 4, "outright.go:226", #[⟨20, .data⟩, ⟨25, .data⟩], none⟩) (.bool false) (by kernel_rfl) rfl (by kernel_rfl) (by kernel_rfl) ?_
      refine wpAny_done (by kernel_rfl) ?_ _
      simp only [Act.put, List.setIfInBounds_toArray, List.set_cons_succ, List.set_cons_zero]
      exact HK.out _ _ _ _ _ _ _ _ _ _ _ _ _ _ _ _ _ _ _ _ _ _ _ _ _ _ W4 (Lib.hid ⟨K1.out.below b9, Fr1.out.below b9⟩)
  · skip
    refine any_load 14 (o := ⟨some 172, Op.load 26 (Operand.tmp 171), 26, "outright.go:226", #[⟨13, .data⟩, ⟨10, .guard⟩], some (10, false)⟩) _ _ (.slice A3 b.length c3) (by kernel_rfl) rfl (by kernel_rfl) rfl (by kernel_rfl) (by kernel_rfl) q0 ?_
    refine any_conv 15 (o := ⟨some 173, Op.convert 26 9 (Operand.tmp 172), 9, "outright.go:226", #[⟨14, .data⟩, ⟨10, .guard⟩], some (10, false)⟩) _ _ (.string X) (by kernel_rfl) rfl (by kernel_rfl) rfl (by kernel_rfl) q1 ?_
    refine any_pure 18 (o := ⟨some 176, Op.binOp BinOp.neq 9 (Operand.tmp 173) (Operand.tmp 175) 9, 4, "outright.go:226", #[⟨15, .data⟩, ⟨17, .data⟩, ⟨10, .guard⟩], some (10, false)⟩) (.bool false) (by kernel_rfl) rfl (by kernel_rfl) (ex_bin rfl (by kernel_rfl) (by kernel_rfl) (by kernel_rfl) (bin_neq_str X X _ false (by simp))) ?_
    refine any_pure 19 (o := ⟨some 177, Op.pick (Operand.tmp 168) (Operand.const (Value.bool true)) (Operand.tmp 176), 4, "outright.go:226", #[⟨10, .data⟩, ⟨18, .data⟩], none⟩) (.bool false) (by kernel_rfl) rfl (by kernel_rfl) (by kernel_rfl) ?_
    refine any_pure 20 (o := ⟨some 178, Op.move (Operand.tmp 177), 4, "outright.go:226", #[⟨19, .data⟩, ⟨10, .chain⟩], none⟩) (.bool false) (by kernel_rfl) rfl (by kernel_rfl) (by kernel_rfl) ?_
    refine wpAny_take (i := 21) (oi := ⟨some 179, Op.move (Operand.tmp 11), 29, "outright.go:226", #[⟨20, .guard⟩], some (20, false)⟩) (v := (.pointer (some ⟨L, 0, none⟩))) rfl (by kernel_rfl) (by kernel_rfl) (by kernel_rfl) (fun _ _ _ h => h) (Or.inl ⟨by kernel_rfl, fun _ => (by kernel_rfl)⟩) ?_
    refine wpAny_take (i := 23) (oi := ⟨some 181, Op.move (Operand.tmp 0), 22, "outright.go:226", #[⟨20, .guard⟩], some (20, false)⟩) (v := (.slice A1 M c1)) rfl (by kernel_rfl) (by kernel_rfl) (by kernel_rfl) (fun _ _ _ h => h) (Or.inl ⟨by kernel_rfl, fun _ => (by kernel_rfl)⟩) ?_
    refine any_call 22 (o := ⟨some 180, Op.call { callee := Callee.value (Operand.func 16), args := #[Operand.tmp 179], argTypes := #[29] }, 22, "outright.go:226", #[⟨21, .data⟩, ⟨20, .chain⟩, ⟨20, .guard⟩], some (20, false)⟩) 16 _ _ #[(.pointer (some ⟨L, 0, none⟩))] (by kernel_rfl) rfl (by kernel_rfl) rfl (by kernel_rfl) en16 (Calls.mono (wr_recs K1.out HRs.out hM) ?_)
    rintro e W3 ⟨a8, c8, rfl, r8, b8⟩
    refine ⟨_, rfl, ?_⟩
    refine any_call 24 (o := ⟨some 182, Op.call { callee := Callee.value (Operand.func 15), args := #[Operand.tmp 180, Operand.tmp 181], argTypes := #[22, 22] }, 4, "outright.go:226", #[⟨22, .data⟩, ⟨23, .data⟩, ⟨22, .chain⟩, ⟨20, .guard⟩], some (20, false)⟩) 15 _ _ #[(.slice a8 M c8), (.slice A1 M c1)] (by kernel_rfl) rfl (by kernel_rfl) rfl (by kernel_rfl) en15 (Calls.mono (wr_sameR r8 b8 HRl.out K1.out hM HRs.out.2.2.2) ?_)
    rintro e W4 ⟨rfl, b9⟩
    refine ⟨_, rfl, ?_⟩
    refine any_pure 25 (o := ⟨some 183, Op.unOp UnOp.not 4 (Operand.tmp 182), 4, "outright.go:226", #[⟨24, .data⟩, ⟨20, .guard⟩], some (20, false)⟩) (.bool false) (by kernel_rfl) rfl (by kernel_rfl) (by kernel_rfl) ?_
    refine any_pure 26 (o := ⟨some 184, Op.pick (Operand.tmp 178) (Operand.const (Value.bool true)) (Operand.tmp 183), 4, "outright.go:226", #[⟨20, .data⟩, ⟨25, .data⟩], none⟩) (.bool false) (by kernel_rfl) rfl (by kernel_rfl) (by kernel_rfl) ?_
    refine wpAny_done (by kernel_rfl) ?_ _
    simp only [Act.put, List.setIfInBounds_toArray, List.set_cons_succ, List.set_cons_zero]
    exact HK.out _ _ _ _ _ _ _ _ _ _ _ _ _ _ _ _ _ _ _ _ _ _ _ _ _ _ W4 (Lib.hid ⟨K1.out.below b9, Fr1.out.below b9⟩)
end Go.Proofs.YtandanbojfdfjaaDoor
