import Derived.Test.YtandanbojfdfjaaDoorDo34
namespace Go.Proofs.YtandanbojfdfjaaDoor
open Go.ChangeShapes Go.WideShapes Go.ChangeAt Go.RowKit

/-! Both disks and both logs -/
def PDg (w : World) (D : Nat) (b : Bs) (p : Int) (g : Option Nat) : Prop := ∃ v, v.ownBlock = g ∧ Blk w D 28 (dsk v p) ∧ By w v b
theorem PDg.kp {w w' : World} {S : Nat → Prop} {E : Nat} {b : Bs} {p : Int} {g : Option Nat} (h : PDg w E b p g) (hk : Kp w w' S) (h1 : ¬ S E) (h2 : ∀ k, g = some k → ¬ S k) : PDg w' E b p g := by
  obtain ⟨v, rfl, hD, hB⟩ := h
  refine ⟨v, rfl, hk.blk hD h1, ?_⟩
  rcases hB with h | ⟨g, o, c, cs, rfl, hB, hc, hr⟩
  · exact .inl h
  · exact .inr ⟨g, o, c, cs, rfl, hk.blk hB (h2 g rfl), hc, hr⟩
theorem PDg.below {w w' : World} {E : Nat} {b : Bs} {p : Int} {g : Option Nat} (h : PDg w E b p g) (hb : Below w.heap.size w w') : PDg w' E b p g := h.kp (Kp.of_below hb (fun _ => False)) (fun h => h) (fun _ _ h => h)
theorem PDg.blk {w : World} {E : Nat} {b : Bs} {p : Int} {g : Option Nat} (h : PDg w E b p g) : ∃ cs, Blk w E 28 cs := by obtain ⟨v, _, h, _⟩ := h; exact ⟨_, h⟩
theorem by_gblk {w : World} {v : Value} {b : Bs} (hB : By w v b) : ∀ k, v.ownBlock = some k → ∃ cs, Blk w k 5 cs := by
  intro k hk
  rcases hB with ⟨rfl, _⟩ | ⟨g, o, c, cs', rfl, hB, _⟩
  · simp [Value.ownBlock] at hk
  · have e : g = k := by simpa [Value.ownBlock] using hk
    subst e
    exact ⟨_, hB⟩
theorem PDg.gblk {w : World} {E : Nat} {b : Bs} {p : Int} {g : Option Nat} (h : PDg w E b p g) : ∀ k, g = some k → ∃ cs, Blk w k 5 cs := by
  obtain ⟨v, rfl, _, hB⟩ := h
  exact by_gblk hB
theorem PDg.at {w : World} {E : Nat} {b : Bs} {p : Int} {g : Option Nat} (h : PDg w E b p g) : DiskAt w E b p := by obtain ⟨v, _, h1, h2⟩ := h; exact ⟨v, h1, h2⟩
theorem RDg.at {w : World} {E : Nat} {b : Bs} {p : Int} {g : Option Nat} (h : RDg w E b p g) : RDk w E b p := by obtain ⟨v, _, h1, h2⟩ := h; exact ⟨v, h1, h2⟩
/-- behind an operation: the bytes lie where they lay, or in a new block -/
theorem PDg.of_new {w w' : World} {D : Nat} {b b' : Bs} {p p' : Int} {g : Option Nat} (h : PDg w D b p g) (h' : DiskAt w' D b' p') (hn : NewB w w' D) : ∃ g', PDg w' D b' p' g' ∧ (g' = g ∨ ∀ k, g' = some k → w.heap.size ≤ k) := by
  obtain ⟨v, rfl, hD, _⟩ := h
  obtain ⟨v', hD', hB'⟩ := h'
  refine ⟨v'.ownBlock, ⟨v', rfl, hD', hB'⟩, ?_⟩
  rcases hn v' (hD'.cell 0 _ rfl) with e | e
  · rw [hD.cell 0 v rfl] at e
    obtain rfl := Option.some.inj e
    exact .inl rfl
  · exact .inr e
theorem RDg.of_new {w w' : World} {D : Nat} {b b' : Bs} {p p' : Int} {g : Option Nat} (h : RDg w D b p g) (h' : RDk w' D b' p') (hn : NewB w w' D) : ∃ g', RDg w' D b' p' g' ∧ (g' = g ∨ ∀ k, g' = some k → w.heap.size ≤ k) := by
  obtain ⟨v, rfl, hD, _⟩ := h
  obtain ⟨v', hD', hB'⟩ := h'
  refine ⟨v'.ownBlock, ⟨v', rfl, hD', hB'⟩, ?_⟩
  rcases hn v' (hD'.cell 0 _ rfl) with e | e
  · rw [hD.cell 0 v rfl] at e
    obtain rfl := Option.some.inj e
    exact .inl rfl
  · exact .inr e

/-- the log that is open, or none -/
abbrev Opn := Option (Nat × Nat × Option Nat)
def Opn.val : Opn → Value
  | none => .pointer none
  | some (L, _, _) => .pointer (some ⟨L, 0, none⟩)
def Opn.row : Opn → Option Nat
  | none => none
  | some (_, _, r) => r
def XL (w0 w : World) (D : Nat) (s : St) (cl : Bool) : Opn → Prop
  | none => s = ⟨[], 0, 0⟩ ∧ cl = false
  | some (L, base, r) => LogAt w base L D r s cl ∧ w0.heap.size ≤ base ∧ base ≤ w.heap.size ∧ w0.heap.size ≤ L ∧ s.last < 9973
theorem XL.kp {w0 w w' : World} {D : Nat} {s : St} {cl : Bool} {x : Opn} {S : Nat → Prop} (h : XL w0 w D s cl x) (hk : Kp w w' S) (h1 : ∀ k cs, Blk w k 68 cs → ¬ S k) (h2 : ∀ k, x.row = some k → ¬ S k) : XL w0 w' D s cl x := by
  rcases x with _ | ⟨L, base, r⟩
  · exact h
  · obtain ⟨hl, h3, h4, h5, h6⟩ := h
    obtain ⟨cs, hb⟩ := hl.blk
    exact ⟨hl.kp hk (h1 L cs hb) h2, h3, Nat.le_trans h4 hk.size, h5, h6⟩
theorem XL.rblk {w0 w : World} {D : Nat} {s : St} {cl : Bool} {x : Opn} (h : XL w0 w D s cl x) : ∀ k, x.row = some k → ∃ cs, Blk w k 9 cs := by
  rcases x with _ | ⟨L, base, r⟩
  · intro k hk; cases hk
  · exact h.1.rblk

structure DS (w0 w : World) (D E Y : Nat) (b : Bs) (p : Int) (s : St) (cl : Bool) (b2 : Bs) (p2 : Int) (s2 : St) (cl2 : Bool) (x : Opn) (g h q : Option Nat) : Prop where
  pd : PDg w D b p g
  rd : RDg w E b2 p2 h
  rl : RLg w w0.heap.size Y s2 cl2 q
  xl : XL w0 w D s cl x
  bel : Below w0.heap.size w0 w
  D0 : w0.heap.size ≤ D
  E0 : w0.heap.size ≤ E
  Y0 : w0.heap.size ≤ Y
  g0 : ∀ k, g = some k → w0.heap.size ≤ k
  h0 : ∀ k, h = some k → w0.heap.size ≤ k
  q0 : ∀ k, q = some k → w0.heap.size ≤ k
  gh : ∀ k, g = some k → ¬ h = some k
  xq : ∀ k, x.row = some k → ¬ q = some k

section
variable {w0 w w' : World} {D E Y : Nat} {b b2 : Bs} {p p2 : Int} {s s2 : St} {cl cl2 : Bool} {x : Opn} {g h q : Option Nat}
theorem DS.below (H : DS w0 w D E Y b p s cl b2 p2 s2 cl2 x g h q) (hb : Below w.heap.size w w') : DS w0 w' D E Y b p s cl b2 p2 s2 cl2 x g h q :=
  ⟨H.pd.below hb, H.rd.below hb, H.rl.below hb, H.xl.kp (Kp.of_below hb (fun _ => False)) (fun _ _ _ h => h) (fun _ _ h => h), H.bel.trans (hb.mono H.bel.size), H.D0, H.E0, H.Y0, H.g0, H.h0, H.q0, H.gh, H.xq⟩
theorem XL.pblk (H : XL w0 w D s cl x) : ∀ k, x.val = .pointer (some ⟨k, 0, none⟩) → (∃ cs, Blk w k 68 cs) ∧ w0.heap.size ≤ k := by
  rcases x with _ | ⟨L, base, r⟩
  · intro k hk; cases hk
  · intro k hk
    have e : L = k := by simpa [Opn.val] using hk
    subst e
    exact ⟨H.1.blk, H.2.2.2.1⟩
theorem XL.rge (H : XL w0 w D s cl x) : ∀ k, x.row = some k → w0.heap.size ≤ k := by
  rcases x with _ | ⟨L, base, r⟩
  · intro k hk; cases hk
  · exact fun k hk => Nat.le_trans H.2.1 (H.1.ge k hk)

/-- the program's side goes on -/
theorem DS.prog (H : DS w0 w D E Y b p s cl b2 p2 s2 cl2 x g h q) (hk : Kp w w' (fun k => k = D ∨ x.val = .pointer (some ⟨k, 0, none⟩) ∨ x.row = some k)) {b' : Bs} {p' : Int} {s' : St} {cl' : Bool} {x' : Opn} {g' : Option Nat}
    (pd' : PDg w' D b' p' g') (xl' : XL w0 w' D s' cl' x') (fg : g' = g ∨ ∀ k, g' = some k → w.heap.size ≤ k) (fx : ∀ k, x'.row = some k → x.row = some k ∨ w.heap.size ≤ k) : DS w0 w' D E Y b' p' s' cl' b2 p2 s2 cl2 x' g' h q := by
  obtain ⟨cd, hD⟩ := H.pd.blk
  have hS : ∀ k t cs, Blk w k t cs → t ≠ 28 → t ≠ 68 → (t = 9 → ¬ x.row = some k) → ¬ (k = D ∨ x.val = .pointer (some ⟨k, 0, none⟩) ∨ x.row = some k) := by
    rintro k t cs hb h1 h2 h3 (e | e | e)
    · subst e; exact h1 (blk_ne hb hD)
    · obtain ⟨⟨c, hc⟩, _⟩ := H.xl.pblk _ e; exact h2 (blk_ne hb hc)
    · obtain ⟨c, hc⟩ := H.xl.rblk _ e; exact h3 (blk_ne hb hc) e
  obtain ⟨ce, he⟩ := H.rd.blk
  obtain ⟨cy, hy⟩ := H.rl.blk
  refine ⟨pd', H.rd.kp hk (hS _ _ _ he (by simp) (by simp) (by simp)) fun k hk' => ?_, H.rl.kp hk (hS _ _ _ hy (by simp) (by simp) (by simp)) fun k hk' => ?_, xl', hk.below H.bel ?_, H.D0, H.E0, H.Y0, fun k hk' => ?_, H.h0, H.q0, fun k hk' e => ?_, fun k hk' e => ?_⟩
  · obtain ⟨c, hc⟩ := H.rd.gblk k hk'
    exact hS _ _ _ hc (by simp) (by simp) (by simp)
  · obtain ⟨c, hc⟩ := H.rl.rblk k hk'
    exact hS _ _ _ hc (by simp) (by simp) fun _ e => H.xq k e hk'
  · rintro k (e | e | e)
    · have := H.D0; omega
    · exact (H.xl.pblk k e).2
    · exact H.xl.rge k e
  · rcases fg with rfl | f
    · exact H.g0 k hk'
    · exact Nat.le_trans H.bel.size (f k hk')
  · rcases fg with rfl | f
    · exact H.gh k hk' e
    · obtain ⟨c, hc⟩ := H.rd.gblk k e
      have := hc.lt; have := f k hk'; omega
  · rcases fx k hk' with f | f
    · exact H.xq k f e
    · obtain ⟨c, hc⟩ := H.rl.rblk k e
      have := hc.lt; omega
/-- the reference's side goes on -/
theorem DS.ref (H : DS w0 w D E Y b p s cl b2 p2 s2 cl2 x g h q) (hk : Kp w w' (fun k => k = E ∨ k = Y ∨ h = some k ∨ q = some k)) {b' : Bs} {p' : Int} {s' : St} {cl' : Bool} {h' q' : Option Nat}
    (rd' : RDg w' E b' p' h') (rl' : RLg w' w0.heap.size Y s' cl' q') (fh : ∀ k, h' = some k → h = some k ∨ w.heap.size ≤ k) (fq : ∀ k, q' = some k → q = some k ∨ w.heap.size ≤ k) : DS w0 w' D E Y b p s cl b' p' s' cl' x g h' q' := by
  obtain ⟨ce, hE⟩ := H.rd.blk
  obtain ⟨cy, hY⟩ := H.rl.blk
  have hS : ∀ k t cs, Blk w k t cs → t ≠ 83 → t ≠ 77 → (t = 5 → ¬ h = some k) → (t = 9 → ¬ q = some k) → ¬ (k = E ∨ k = Y ∨ h = some k ∨ q = some k) := by
    rintro k t cs hb h1 h2 h3 h4 (e | e | e | e)
    · subst e; exact h1 (blk_ne hb hE)
    · subst e; exact h2 (blk_ne hb hY)
    · obtain ⟨c, hc⟩ := H.rd.gblk _ e; exact h3 (blk_ne hb hc) e
    · obtain ⟨c, hc⟩ := H.rl.rblk _ e; exact h4 (blk_ne hb hc) e
  obtain ⟨cd, hD⟩ := H.pd.blk
  refine ⟨H.pd.kp hk (hS _ _ _ hD (by simp) (by simp) (by simp) (by simp)) fun k hk' => ?_, rd', rl', H.xl.kp hk (fun k cs hb => hS _ _ _ hb (by simp) (by simp) (by simp) (by simp)) fun k hk' => ?_, hk.below H.bel ?_, H.D0, H.E0, H.Y0, H.g0, fun k hk' => ?_, fun k hk' => ?_, fun k hk' e => ?_, fun k hk' e => ?_⟩
  · obtain ⟨c, hc⟩ := H.pd.gblk k hk'
    exact hS _ _ _ hc (by simp) (by simp) (fun _ => H.gh k hk') (by simp)
  · obtain ⟨c, hc⟩ := H.xl.rblk k hk'
    exact hS _ _ _ hc (by simp) (by simp) (by simp) fun _ => H.xq k hk'
  · rintro k (e | e | e | e)
    · have := H.E0; omega
    · have := H.Y0; omega
    · exact H.h0 k e
    · exact H.q0 k e
  · rcases fh k hk' with f | f
    · exact H.h0 k f
    · exact Nat.le_trans H.bel.size f
  · rcases fq k hk' with f | f
    · exact H.q0 k f
    · exact Nat.le_trans H.bel.size f
  · rcases fh k e with f | f
    · exact H.gh k hk' f
    · obtain ⟨c, hc⟩ := H.pd.gblk k hk'
      have := hc.lt; omega
  · rcases fq k e with f | f
    · exact H.xq k hk' f
    · obtain ⟨c, hc⟩ := H.xl.rblk k hk'
      have := hc.lt; omega

theorem lens_nil {l : List Bs} (h : l = []) : l.length = 0 := by rw [h]; rfl
/-- all that the comparison reads -/
theorem DS.cmp (H : DS w0 w D E Y b p s cl b p s cl x g h q) (hm : s.recs.length ≤ 1000000) :
    ∃ n1 n2 c1 c2 c3 A1 A2 A3, Cmp w D E Y s.recs.length n1 n2 c1 c2 c3 s.last s.size A1 A2 A3 x.val ⟨b.toArray⟩ p := by
  obtain ⟨v1, _, hD, hB1⟩ := H.pd
  obtain ⟨v2, _, hE, hB2⟩ := H.rd
  obtain ⟨v3, _, hY, hr⟩ := H.rl
  obtain ⟨A1, c1, rfl, _⟩ := hB1.form
  obtain ⟨A2, c2, rfl, _⟩ := hB2.form
  obtain ⟨A3, c3, rfl, _, hrd, _⟩ := row_rd hr
  refine ⟨_, _, c1, c2, c3, A1, A2, A3, hD.lt, hE.lt, hY.lt, hD.cell 0 _ rfl, hD.cell 1 _ rfl, hE.cell 0 _ rfl, hE.cell 1 _ rfl, hY.cell 0 _ rfl, hY.cell 1 _ rfl, hY.cell 2 _ rfl, fun W hW => (hB1.below hW).conv, fun W hW => (hB2.below hW).conv, ⟨s.recs, rfl, hrd, hm, fun W hW => ?_⟩, fun W hW => ?_, fun W hW => ?_⟩
  · have hx := (H.below hW).xl
    rcases x with _ | ⟨L, base, r⟩
    · refine (records_nil W).mono ?_
      rintro e w' ⟨rfl, rfl⟩
      have e : s.recs = [] := by rw [hx.1]
      exact ⟨none, 0, by rw [lens_nil e], by rw [e]; exact Rd.nil, Below.refl _ _⟩
    · refine (records_any base L D r s cl W hx.1 (by omega)).mono ?_
      rintro e w' ⟨v, he, hr', hb⟩
      obtain ⟨A, c, rfl, _, hrd', _⟩ := row_rd hr'
      exact ⟨A, c, he, hrd', hb⟩
  · have hx := (H.below hW).xl
    rcases x with _ | ⟨L, base, r⟩
    · have e : s.last = 0 := by rw [hx.1]
      rw [e]; exact last_nil W
    · exact lastL_any base L D r s cl W hx.1
  · have hx := (H.below hW).xl
    rcases x with _ | ⟨L, base, r⟩
    · have e : s.size = 0 := by rw [hx.1]
      rw [e]; exact size_nil W
    · exact sizeL_any base L D r s cl W hx.1

theorem useL_rng {p : Int} (n : Nat) (hl : -(2^63) ≤ p) (hh : p < 2^63) : -(2^63) ≤ useL p n ∧ useL p n < 2^63 := by
  unfold useL
  split <;> omega
theorem appR_bd {t : Bs} (hs : s.last < 9973) (hl : -(2^63) ≤ p) (hh : p < 2^63) : (appR b p s cl t).2.1.length ≤ b.length + (t.length + 6) ∧ -(2^63) ≤ (appR b p s cl t).2.2.1 ∧ (appR b p s cl t).2.2.1 < 2^63 ∧
    (appR b p s cl t).2.2.2.1.last < 9973 ∧ (appR b p s cl t).2.2.2.1.size ≤ s.size + (t.length + 6) ∧ (appR b p s cl t).2.2.2.1.recs.length ≤ s.recs.length + 1 := by
  have hu := useL_rng (p := p) (t.length + 6) hl hh
  have hn := useR_le p (t.length + 6)
  have hll := lin_len s.last t
  unfold appR
  split
  · exact ⟨by simp only; omega, hl, hh, hs, by simp only; omega, by simp only; omega⟩
  · split
    · exact ⟨by simp only; omega, hl, hh, hs, by simp only; omega, by simp only; omega⟩
    · split
      · exact ⟨by simp only; omega, hl, hh, hs, by simp only; omega, by simp only; omega⟩
      · split
        · exact ⟨by simp only [List.length_append, List.length_take]; omega, hu.1, hu.2, hs, by simp only; omega, by simp only; omega⟩
        · exact ⟨by simp only [List.length_append]; omega, hu.1, hu.2, chk_lt _ _, by simp only [St.add]; omega, by simp [St.add]⟩
end
end Go.Proofs.YtandanbojfdfjaaDoor
