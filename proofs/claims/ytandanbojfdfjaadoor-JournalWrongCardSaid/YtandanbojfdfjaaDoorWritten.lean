import Derived.Test.YtandanbojfdfjaaDoorTexts
namespace Go.Proofs.YtandanbojfdfjaaDoor
open Go.ChangeShapes Go.WideShapes Go.ChangeAt Go.RowKit

theorem Sys.kp {w0 w w' : World} {S : Nat → Prop} {base L D : Nat} {b : Bs} {p : Int} {s : St} {cl : Bool} (h : Sys w0 w base L D b p s cl) (hk : Kp w w' S)
    (h5 : ∀ k cs, Blk w k 5 cs → ¬ S k) (h9 : ∀ k cs, Blk w k 9 cs → ¬ S k) (h28 : ∀ k cs, Blk w k 28 cs → ¬ S k) (h68 : ∀ k cs, Blk w k 68 cs → ¬ S k) (hb : ∀ k, S k → w0.heap.size ≤ k) : Sys w0 w' base L D b p s cl := by
  obtain ⟨r, hl⟩ := h.log
  obtain ⟨c1, hD⟩ := h.disk.blk
  obtain ⟨c2, hL⟩ := hl.blk
  refine ⟨h.disk.kp hk (h28 _ _ hD) h5, ⟨r, hl.kp hk (h68 _ _ hL) fun k e => ?_⟩, hk.below h.bel hb, h.base0, h.D0, h.L0, Nat.le_trans h.base1 hk.size⟩
  obtain ⟨cs, hB⟩ := hl.rblk k e
  exact h9 _ _ hB
/-- a row of other elements is not written by Append -/
theorem SS.not {w : World} {base L D k t : Nat} {cs c1 c2 : Array Value} (hB : Blk w k t cs) (hD : Blk w D 28 c1) (hL : Blk w L 68 c2) (h1 : t ≠ 28) (h2 : t ≠ 68) (h3 : t ≠ 9) : ¬ SS w base L D k := by
  rintro (rfl | rfl | ⟨_, cs', h⟩)
  · exact h1 (blk_ne hB hD)
  · exact h2 (blk_ne hB hL)
  · exact h3 (blk_ne hB h)
theorem Sys.app_row {w0 w w' : World} {base L D : Nat} {b : Bs} {p : Int} {s : St} {cl : Bool} (h : Sys w0 w base L D b p s cl) (hk : Kp w w' (SS w base L D)) {bs : Nat} {e : TypeId} {n : Nat} {v : Value} {xs : List Value} (hr : w.ownsRow bs e 1 v n xs) (h1 : e ≠ 28) (h2 : e ≠ 68) (h3 : e ≠ 9) : w'.ownsRow bs e 1 v n xs := by
  obtain ⟨r, hl⟩ := h.log
  obtain ⟨c1, hD⟩ := h.disk.blk
  obtain ⟨c2, hL⟩ := hl.blk
  refine hk.row hr fun k e => ?_
  obtain ⟨cs, hB⟩ := row_blk hr e
  exact SS.not hB hD hL h1 h2 h3
theorem Sys.row {w0 w w' : World} {base L D : Nat} {b : Bs} {p : Int} {s : St} {cl : Bool} (h : Sys w0 w base L D b p s cl) {bs : Nat} {e : TypeId} {n : Nat} {v : Value} {xs : List Value} (hr : w.ownsRow bs e 1 v n xs)
    (hk : Kp w w' (fun k => v.ownBlock = some k)) (h1 : e ≠ 28) (h2 : e ≠ 68) (h3 : e ≠ 9) (h4 : e ≠ 5) (hb : w0.heap.size ≤ bs) : Sys w0 w' base L D b p s cl := by
  have no : ∀ t, e ≠ t → ∀ k cs, Blk w k t cs → ¬ v.ownBlock = some k := fun t ht k cs hB e => by
    obtain ⟨cs', hB'⟩ := row_blk hr e
    exact ht (blk_ne hB' hB)
  exact h.kp hk (no 5 h4) (no 9 h3) (no 28 h1) (no 68 h2) fun k e => Nat.le_trans hb (row_ge hr k e)

/-- up to where each of the first k lines goes -/
def endsN (l : List Bs) (k : Nat) : List Int := (List.range k).map fun i => ((logB 1 (l.take (i + 1))).length : Int)
theorem endsN_succ (l : List Bs) (k : Nat) : endsN l (k + 1) = endsN l k ++ [((logB 1 (l.take (k + 1))).length : Int)] := by simp [endsN, List.range_succ]
theorem endsN_len (l : List Bs) (k : Nat) : (endsN l k).length = k := by simp [endsN]
/-- small records, not many -/
structure Few (l : List Bs) : Prop where
  okr : ∀ t ∈ l, recB t = true
  len : ∀ t ∈ l, t.length ≤ 60
  num : l.length ≤ 20
theorem logB_le : ∀ (l : List Bs) (x : Nat), (∀ t ∈ l, t.length ≤ 60) → (logB x l).length ≤ 66 * l.length
  | [], _, _ => by simp [logB]
  | t :: l, x, h => by
    have h1 := h t (by simp)
    have h2 := logB_le l (chk x t) fun u hu => h u (by simp [hu])
    show (lin x t ++ logB (chk x t) l).length ≤ _
    rw [List.length_append, lin_len, List.length_cons]; omega
theorem Few.take {l : List Bs} (h : Few l) (k : Nat) : Few (l.take k) := ⟨fun t ht => h.okr t (List.mem_of_mem_take ht), fun t ht => h.len t (List.mem_of_mem_take ht), by simp; have := h.num; omega⟩
theorem Few.log {l : List Bs} (h : Few l) : (logB 1 l).length ≤ 1320 := by
  have := logB_le l 1 h.len
  have := h.num
  omega
theorem Few.size {l : List Bs} (h : Few l) : (St.zero.adds l).size ≤ 1320 := by
  rw [adds_size]; have := h.log; simpa [St.zero] using this
theorem Few.recs {l : List Bs} (h : Few l) : (St.zero.adds l).recs = l := by rw [adds_recs]; simp [St.zero]
theorem Few.last {l : List Bs} (h : Few l) : (St.zero.adds l).last < 9973 := have _ := h.num; adds_last l .zero (by decide)
theorem take_one {α : Type} {l : List α} {k : Nat} (d : α) (h : k < l.length) : l.take (k + 1) = l.take k ++ [l.getD k d] := by
  rw [List.take_succ_eq_append_getElem h]; simp [h]
theorem getD_in {α : Type} {l : List α} {k : Nat} (d : α) (h : k < l.length) : l.getD k d ∈ l := by
  rw [List.getD_eq_getElem?_getD, List.getElem?_eq_getElem h]; exact List.getElem_mem h

theorem wr_app {w0 w : World} {base L D : Nat} {l : List Bs} {k : Nat} (h : Sys w0 w base L D (logB 1 (l.take k)) (-1) (St.zero.adds (l.take k)) false) (hT : Tb w0) (hk : k < l.length) (hl : Few l) (t : ByteArray) (ht : t.data.toList = l.getD k []) :
    Calls Tryd.prog 14 #[.pointer (some ⟨L, 0, none⟩), .string t] w fun e w' => e = .returned (.int .i64 0) ∧ Sys w0 w' base L D (logB 1 (l.take (k + 1))) (-1) (St.zero.adds (l.take (k + 1))) false ∧ Kp w w' (SS w base L D) := by
  have hm : t.data.toList ∈ l := by rw [ht]; exact getD_in _ hk
  have h1 := (hl.take k).log
  have h2 := hl.len _ hm
  have h3 := (hl.take k).size
  refine (app_num h hT t (hl.take k).last (by omega) (by decide) (by decide) (by omega) (by rw [(hl.take k).recs]; have := (hl.take k).num; omega) (app_free (hl.okr _ hm) (by omega))).mono ?_
  rintro e w' ⟨he, hs, hk'⟩
  rw [take_one [] hk, ← ht, St.adds_snoc, show logB 1 (l.take k ++ [t.data.toList]) = logB 1 (l.take k) ++ lin (St.zero.adds (l.take k)).last t.data.toList from logB_snoc _ _ .zero]
  exact ⟨he, hs, hk'⟩

theorem wr_same {w0 w w1 : World} {A a1 : Option Addr} {c c1 n : Nat} {l : List Bs} (hr : Rd w0 w0.heap.size A (scs l)) (hl : Few l) (hn : l.length = n) (hb : Below w0.heap.size w0 w) (h1 : Rd w1 w1.heap.size a1 (scs l)) (hb1 : Below w.heap.size w w1) (xs : List Bs) (hx : xs = l) :
    Calls Tryd.prog 15 #[.slice a1 xs.length c1, .slice A n c] w1 fun e w' => e = .returned (.bool true) ∧ Below w1.heap.size w1 w' := by
  subst hx
  refine (same_num (w0 := w1) h1 (hr.keep (hb.trans (hb1.mono hb.size)) (Nat.le_trans hb.size hb1.size)) (Below.refl _ _) rfl hn (by have := hl.num; omega) (by have := hl.num; omega) (r := true) (by simp)).mono ?_
  exact fun e w' ⟨he, h, _⟩ => ⟨he, h⟩

theorem eInt3 : Elem Tryd.prog 37 3 (.int .i64 0) 1 8 := ⟨by kernel_rfl, by kernel_rfl, rfl, by omega, by omega⟩
/-- what written returns -/
def WrP (w : World) (l : List Bs) (e : Ending) (w' : World) : Prop :=
  ∃ v u, e = .returned (.tuple #[v, u, .bool true]) ∧ By w' v (logB 1 l) ∧ w'.ownsRow w.heap.size 3 1 u l.length (ics .i64 (endsN l l.length)) ∧ Below w.heap.size w w'

set_option maxRecDepth 100000 in
set_option maxHeartbeats 4000000 in
theorem written_any (A : Option Addr) (c n : Nat) (l : List Bs) (w : World) (hr : Rd w w.heap.size A (scs l)) (hn : l.length = n) (hc : n ≤ c) (hl : Few l) (hT : Tb w) :
    Calls Tryd.prog 18 #[.slice A n c] w (WrP w l) := by
  have HT := Lib.hid hT
  have HR := Lib.hid hr
  have HF := Lib.hid hl
  have HN := Lib.hid hn
  have hn2 : n ≤ 20 := by have := hl.num; omega
  clear hr hn hl hT
  go_enter Tryd.func18, Tryd.ntmps18
  go_wp2_with fail
  have HO : Hid _ := Lib.hid (open_any w.heap.size [] (-1) (w.alloc (.cells #[.slice none 0 0, .int .i64 (-1)] 28)) ⟨.slice none 0 0, Blk.new _ _ _, By.nil _⟩ (by decide) (by decide) (by decide) (HT.out.below (below_alloc _ _) HT.out.lt))
  rw [open_new] at HO
  refine HO.out.mono ?_
  intro e w5 ho
  obtain ⟨L, rfl, h1, _⟩ := Sys.of_open (below_alloc _ _) (Nat.le_refl _) ho
  clear ho HO
  go_wp2_with fail
  have HS5 := Lib.hid h1
  clear h1
  go_loopw [8, 26] (fun v i wr => ∃ k : Nat, k ≤ n ∧ i = .int .i64 k ∧ Hid (Sys w wr (w.alloc (.cells #[.slice none 0 0, .int .i64 (-1)] 28)).heap.size L w.heap.size (logB 1 (l.take k)) (-1) (St.zero.adds (l.take k)) false) ∧ Hid (wr.ownsRow w.heap.size 3 1 v k (ics .i64 (endsN l k)))) (fun _ i _ => n - (intOf i).toNat)
  case atStart => exact ⟨0, Nat.zero_le _, rfl, HS5, Lib.hid (by simpa [endsN, ics] using World.ownsRow_nil _ _ _ _)⟩
  case round =>
    obtain ⟨k, hk, rfl, hS, hV⟩ := hrel
    by_cases hlt : k < n
    · have hkx : k < l.length := by have := HN.out; omega
      obtain ⟨b1, o1, rfl, hb1, hc1⟩ := HR.out.strs (by omega)
      have g1 := (bcell hS.out.bel b1 (o1 + k) hb1).trans (hc1 k hkx)
      have HA := Lib.hid (wr_app hS.out HT.out hkx HF.out ⟨(l.getD k []).toArray⟩ rfl)
      generalize l.getD k [] = t at *
      clear hc1
      go_wp2_with fail
      refine HA.out.mono ?_
      rintro e w6 ⟨rfl, h6, hk6⟩
      have H6 := Lib.hid h6
      have HV6 := Lib.hid (hS.out.app_row hk6 hV.out (by decide) (by decide) (by decide))
      obtain ⟨A6, c6, g6, _⟩ := h6.disk.bytes
      have HE := Lib.hid (endsN_succ l k)
      have hz6 := ((HF.out.take (k + 1)).log)
      clear HA h6 hk6
      generalize (logB 1 (l.take (k + 1))).length = z at *
      go_wp2_with (at_builtin; refine ap_one_at w.heap.size rfl (.tmp 34) (.tmp 40) 37 rfl eInt3 [.int .i64 z] HV6.out H6.out.bel.size rfl rfl rfl (by simp [Value.oneCell']) (by omega) ?_; intro v' w' hown' hkp' hob')
      go_roundw
      case rel => exact ⟨k + 1, by omega, by go_num, Lib.hid (H6.out.row HV6.out hkp' (by decide) (by decide) (by decide) (by decide) (Nat.le_refl _)), Lib.hid (by rw [HE.out, ics, List.map_append]; exact hown')⟩
      case measure => simp [intOf]; omega
    · obtain rfl : k = n := by omega
      have hfull : l.take k = l := List.take_of_length_le (by have := HN.out; omega)
      rw [hfull] at hS
      have h7 := hS.out.below (w' := wr.drew) ((Below.refl _ _).drew)
      obtain ⟨A7, c7, g7, _⟩ := h7.disk.bytes
      have HB7 : Hid (By wr (.slice A7 (logB 1 l).length c7) (logB 1 l)) := Lib.hid (by
        obtain ⟨v, hD, hB⟩ := h7.disk
        have := hD.cell 0 _ rfl
        rw [g7] at this
        obtain rfl := Option.some.inj this
        exact hB)
      have hst : ((St.zero.adds l).size : Int) = (logB 1 l).length := by rw [adds_size]; simp [St.zero]
      have hZ := h7.size
      have hq := h7.records (by rw [HF.out.recs]; have := HF.out.num; omega)
      rw [hst] at hZ
      rw [HF.out.recs, HN.out] at hq
      have hz7 := HF.out.log
      have hlt7 := cell_lt g7
      have HV7 := Lib.hid hV.out
      have HBel := Lib.hid h7.bel
      have HSm := fun (w1 : World) (a1 : Option Addr) (c1 : Nat) (h1 : Rd w1 w1.heap.size a1 (scs l)) (hb1 : Below wr.drew.heap.size wr.drew w1) => Lib.hid (wr_same (c := c) (c1 := c1) HR.out HF.out HN.out HBel.out h1 hb1 l rfl)
      rw [HN.out] at HSm
      have HZ := Lib.hid hZ
      have HQ := Lib.hid hq
      clear hS hV h7 hst hZ hq
      have HEn := HN.out
      generalize (logB 1 l).length = z at *
      go_wp2_with fail
      go_region_held3 (fun w' => w'.cell? ⟨w.heap.size, 0, none⟩ = some (.slice A7 z c7))
        (first
          | go_keep
          | exact (bcell b9 _ 0 (Nat.lt_of_lt_of_le hlt7 b8.size)).trans ((bcell b8 _ 0 hlt7).trans g7)
          | exact (bcell b8 _ 0 hlt7).trans g7)
        (first
          | ((with_reducible refine HZ.out.mono ?_); rintro e w7 ⟨rfl, rfl⟩)
          | ((with_reducible refine HQ.out.mono ?_); rintro e w8 ⟨a8, c8, rfl, r8, b8⟩)
          | ((with_reducible refine (HSm _ _ _ r8 b8).out.mono ?_); rintro e w9 ⟨rfl, b9⟩))
      go_wp2_with fail
      go_ret3
      have hb : Below wr.heap.size wr w9 := ((Below.refl _ _).drew).trans (Below.trans (b := w8) b8 (b9.mono b8.size))
      refine ⟨_, _, rfl, HB7.out.below hb, ?_, Below.trans HBel.out ((Below.trans (b := w8) b8 (b9.mono b8.size)).mono HBel.out.size)⟩
      rw [HEn]
      exact ownsRow_later HV7.out hb
end Go.Proofs.YtandanbojfdfjaaDoor
