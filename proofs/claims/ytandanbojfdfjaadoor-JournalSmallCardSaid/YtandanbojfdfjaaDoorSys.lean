import Derived.Test.YtandanbojfdfjaaDoorApp1
import Derived.Test.YtandanbojfdfjaaDoorSameS
import Derived.Test.YtandanbojfdfjaaDoorRepair
namespace Go.Proofs.YtandanbojfdfjaaDoor
open Go.ChangeShapes Go.WideShapes Go.ChangeAt Go.RowKit

/-- an open log with its disk, both made by the call that began in w0 -/
structure Sys (w0 w : World) (base L D : Nat) (b : Bs) (p : Int) (s : St) (cl : Bool) : Prop where
  disk : DiskAt w D b p
  log : ∃ r, LogAt w base L D r s cl
  bel : Below w0.heap.size w0 w
  base0 : w0.heap.size ≤ base
  D0 : w0.heap.size ≤ D
  L0 : w0.heap.size ≤ L
  base1 : base ≤ w.heap.size

/-- what Append may write -/
def SS (w : World) (base L D k : Nat) : Prop := k = D ∨ k = L ∨ (base ≤ k ∧ ∃ cs, Blk w k 9 cs)

theorem Sys.below {w0 w w' : World} {base L D : Nat} {b : Bs} {p : Int} {s : St} {cl : Bool} (h : Sys w0 w base L D b p s cl) (hb : Below w.heap.size w w') : Sys w0 w' base L D b p s cl := by
  obtain ⟨r, hl⟩ := h.log
  exact ⟨h.disk.below hb, ⟨r, hl.below hb⟩, h.bel.trans (hb.mono h.bel.size), h.base0, h.D0, h.L0, Nat.le_trans h.base1 hb.size⟩

theorem Sys.app {w0 w : World} {base L D : Nat} {b : Bs} {p : Int} {s : St} {cl : Bool} (h : Sys w0 w base L D b p s cl) (hT : Tb w0) (t : ByteArray) (hx : s.last < 9973) (hn : b.length ≤ 2000000) (hl : -(2^63) ≤ p) (hh : p < 2^63) (hss : s.size ≤ 1000000000) (hrl : s.recs.length ≤ 1000000000) :
    Calls Tryd.prog 14 #[.pointer (some ⟨L, 0, none⟩), .string t] w fun e w' => e = .returned (.int .i64 (appR b p s cl t.data.toList).1) ∧
      Sys w0 w' base L D (appR b p s cl t.data.toList).2.1 (appR b p s cl t.data.toList).2.2.1 (appR b p s cl t.data.toList).2.2.2.1 (appR b p s cl t.data.toList).2.2.2.2 ∧ Kp w w' (SS w base L D) := by
  obtain ⟨r, hlog⟩ := h.log
  have h2 := hT.lt
  have := h.base0; have := h.D0; have := h.L0
  refine (app_any base L D r s cl b p t w hlog h.disk hx hn hl hh (hT.below h.bel hT.lt) (by omega) (by omega) (by omega) h.base1 hss hrl).mono ?_
  rintro e w' ⟨he, hd, ⟨r', hl', _⟩, hk, _⟩
  have hk' : Kp w w' (SS w base L D) := hk.mono fun k _ hs => by
    rcases hs with e | e | e
    · exact .inl e
    · exact .inr (.inl e)
    · exact .inr (.inr ⟨hlog.ge k e, hlog.rblk k e⟩)
  refine ⟨he, ⟨hd, ⟨r', hl'⟩, hk'.below h.bel ?_, h.base0, h.D0, h.L0, Nat.le_trans h.base1 hk.size⟩, hk'⟩
  rintro k (e | e | ⟨e, _⟩) <;> omega

theorem Sys.of_open {w0 w w' : World} {D : Nat} {b' : Bs} {p' : Int} {s : St} {n : Nat} {e : Ending} (hb : Below w0.heap.size w0 w) (hD : w0.heap.size ≤ D) (h : OpenP w D (some s, n, b', p') e w') :
    ∃ L, e = .returned (.tuple #[.pointer (some ⟨L, 0, none⟩), .int .i64 0]) ∧ Sys w0 w' w.heap.size L D b' p' s false ∧ w.heap.size ≤ L := by
  obtain ⟨hd, ⟨hk, _⟩, L, r, he, hl, hL⟩ := h
  exact ⟨L, he, ⟨hd, ⟨r, hl⟩, hk.below hb (fun k e => by omega), hb.size, hD, Nat.le_trans hb.size hL, hk.size⟩, hL⟩

theorem Sys.last {w0 w : World} {base L D : Nat} {b : Bs} {p : Int} {s : St} {cl : Bool} (h : Sys w0 w base L D b p s cl) :
    Calls Tryd.prog 24 #[.pointer (some ⟨L, 0, none⟩)] w fun e w' => e = .returned (.int .i64 s.last) ∧ w = w' := by
  obtain ⟨r, hl⟩ := h.log; exact lastL_any _ _ _ _ _ _ _ hl
theorem Sys.size {w0 w : World} {base L D : Nat} {b : Bs} {p : Int} {s : St} {cl : Bool} (h : Sys w0 w base L D b p s cl) :
    Calls Tryd.prog 17 #[.pointer (some ⟨L, 0, none⟩)] w fun e w' => e = .returned (.int .i64 s.size) ∧ w = w' := by
  obtain ⟨r, hl⟩ := h.log; exact sizeL_any _ _ _ _ _ _ _ hl
theorem Sys.records {w0 w : World} {base L D : Nat} {b : Bs} {p : Int} {s : St} {cl : Bool} (h : Sys w0 w base L D b p s cl) (hn : s.recs.length ≤ 2000000) :
    Calls Tryd.prog 16 #[.pointer (some ⟨L, 0, none⟩)] w fun e w' => ∃ a c, e = .returned (.slice a s.recs.length c) ∧ Rd w' w'.heap.size a (scs s.recs) ∧ Below w.heap.size w w' := by
  obtain ⟨r, hl⟩ := h.log
  refine (records_any _ _ _ _ _ _ _ hl hn).mono ?_
  rintro e w' ⟨v, he, hr, hb⟩
  obtain ⟨A, c, rfl, _, hrd, _⟩ := row_rd hr
  exact ⟨A, c, he, hrd, hb⟩

theorem conv_nil (w : World) : (convert 26 9 (.slice none 0 0)).run Tryd.prog w = .ok (.string ⟨#[]⟩) w := by kernel_rfl
/-- the disk's bytes, and as a string -/
theorem DiskAt.bytes {w : World} {D : Nat} {b : Bs} {p : Int} (h : DiskAt w D b p) : ∃ A c, w.cell? ⟨D, 0, none⟩ = some (.slice A b.length c) ∧ w.cell? ⟨D, 1, none⟩ = some (.int .i64 p) ∧ (convert 26 9 (.slice A b.length c)).run Tryd.prog w = .ok (.string ⟨b.toArray⟩) w ∧
    Rd w w.heap.size A (bcs b) ∧ b.length ≤ c := by
  obtain ⟨v, hD, hB⟩ := h
  have h1 := hD.cell 1 _ rfl
  obtain ⟨A, c, rfl, hr, hc, hA, hA2, _⟩ := hB.form
  refine ⟨A, c, hD.cell 0 _ rfl, h1, ?_, hr, hc⟩
  rcases hB with ⟨e, rfl⟩ | ⟨g, o, c', cs, e, hb, hc', hcs, _⟩
  · obtain ⟨rfl, rfl⟩ : A = none ∧ c = 0 := by simpa using e
    exact conv_nil w
  · obtain ⟨rfl, rfl⟩ : A = some ⟨g, o, none⟩ ∧ c = c' := by simpa using e
    have := Lib.run_convert_whole (P := Tryd.prog) w 26 5 9 (by kernel_rfl) (by kernel_rfl) (by kernel_rfl) g o ⟨b.toArray⟩ (fun i hi => by
      have := hb.cell (o + i) _ (hcs i _ (by rw [List.getElem?_map, List.getElem?_eq_getElem (show i < b.length from hi)]; rfl))
      exact this) c
    exact this
end Go.Proofs.YtandanbojfdfjaaDoor
