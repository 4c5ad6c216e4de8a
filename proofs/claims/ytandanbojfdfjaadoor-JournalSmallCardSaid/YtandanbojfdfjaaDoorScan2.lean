import Derived.Test.YtandanbojfdfjaaDoorScan
namespace Go.Proofs.YtandanbojfdfjaaDoor
open Go.ChangeShapes Go.WideShapes Go.ChangeAt Go.RowKit Go.Shelf
attribute [local go_sem] Oper.semAt_some

def sgo : List Bs → St → St × Nat
  | [], s => (s, 0)
  | x :: r, s => if ends x then if goodB s.last x then sgo r (s.add (mid x)) else (s, 2) else (s, 1)
def scanS (b : Bs) : St × Nat := sgo (lns b) .zero
theorem sgo_taken : ∀ (n : Nat) (p : List Bs), p.length = n → taken p → ∀ r, sgo (p ++ r) .zero = sgo r (run p)
  | 0, p, hl, _, r => by
    have : p = [] := List.eq_nil_of_length_eq_zero hl
    subst this; rfl
  | n + 1, p, hl, ht, r => by
    rcases List.eq_nil_or_concat p with rfl | ⟨q, x, rfl⟩
    · simp at hl
    · rw [List.concat_eq_append] at *
      obtain ⟨h1, h2, h3⟩ := taken_init ht
      have := sgo_taken n q (by simpa using hl) h1 (x :: r)
      rw [List.append_assoc, List.singleton_append, this, run_snoc]
      simp [sgo, h2, h3]

theorem Blk.alloc {w : World} {L t : Nat} {cs : Array Value} (h : Blk w L t cs) (o : Obj) : Blk (w.alloc o) L t cs := (Below.heap_alloc _ _ _ h.lt).trans h

theorem kf_of_kp {A B : World} {Bc D : Nat} (h : Kp A B (fun k => k = Bc)) (hD : Bc < D) : KeepsFrom D A B :=
  ⟨h.size, fun k o hk hg _ => (h.block k (Array.getElem?_eq_some_iff.1 hg).1 (by omega)).trans hg⟩
theorem cells_kept {W W' : World} {row : Option Nat} (hg : W.grownBy W' row) (hr : ∀ r, row = some r → ∃ o : Obj, W.heap[r]? = some o ∧ o.isCells = false) {k t : Nat} {cs : Array Value} (h : Blk W k t cs) : Blk W' k t cs := by
  refine (hg.block k h.lt fun e => ?_).trans h
  obtain ⟨o, ho, hc⟩ := hr k e.symm
  rw [h] at ho
  obtain rfl := Option.some.inj ho
  simp [Obj.isCells] at hc

/-- between two rounds -/
def ScI (w : World) (all : Bs) (pre : List Bs) (W : World) : Prop :=
  taken pre ∧ pre <+: lns all ∧ ScM w (w.heap.size + 1 + 1) w.heap.size (w.heap.size + 1) (w.heap.size + 1 + 1 + 1) (w.heap.size + 4) (run pre) W ∧ Blk W w.heap.size 29 #[.pointer none] ∧ Blk W (w.heap.size + 1) 5 #[.int .u8 0]
/-- a round has returned -/
def ScX (w : World) (all : Bs) (pre : List Bs) (W : World) : Prop :=
  ∃ p x tail, pre = p ++ [x] ∧ taken p ∧ pre <+: lns all ∧ ScM w (w.heap.size + 1 + 1) w.heap.size (w.heap.size + 1) (w.heap.size + 1 + 1 + 1) (w.heap.size + 4) (run p) W ∧
    Blk W w.heap.size 29 #[.pointer (some ⟨w.heap.size + 1 + 1, 0, none⟩)] ∧ Blk W (w.heap.size + 1) 5 #[.int .u8 (tail : Nat)] ∧ ((tail = 1 ∧ ends x = false) ∨ (tail = 2 ∧ ends x = true ∧ goodB (run p).last x = false))

theorem ScI.own (w : World) (all : Bs) {D : Nat} (hD : w.heap.size ≤ D) : OwnFrom D (ScI w all) := by
  rintro pre W W' row ⟨h1, h2, h3, h4, h5⟩ hg hr
  have hc := fun (k : Nat) (cs : Array Value) (t : Nat) (h : Blk W k t cs) => cells_kept hg (fun r e => (hr r e).2) h
  exact ⟨h1, h2, h3.keep (fun k cs t _ h => hc k cs t h) (by omega) (by omega) (h3.bel.grown hg h3.bel.size fun k e => Nat.le_trans hD (hr k e).1) hg.size, hc _ _ _ h4, hc _ _ _ h5⟩
theorem ScX.own (w : World) (all : Bs) {D : Nat} (hD : w.heap.size ≤ D) : OwnFrom D (ScX w all) := by
  rintro pre W W' row ⟨p, x, tail, h1, h2, h2', h3, h4, h5, h6⟩ hg hr
  have hc := fun (k : Nat) (cs : Array Value) (t : Nat) (h : Blk W k t cs) => cells_kept hg (fun r e => (hr r e).2) h
  exact ⟨p, x, tail, h1, h2, h2', h3.keep (fun k cs t _ h => hc k cs t h) (by omega) (by omega) (h3.bel.grown hg h3.bel.size fun k e => Nat.le_trans hD (hr k e).1) hg.size, hc _ _ _ h4, hc _ _ _ h5, h6⟩
theorem ScI.ab (w : World) (all : Bs) (pre : List Bs) (A B : World) (h : ScI w all pre A) (hk : Kp A B (fun k => k = w.heap.size + 4)) : ScI w all pre B := by
  obtain ⟨h1, h2, h3, h4, h5⟩ := h
  exact ⟨h1, h2, h3.keep (fun k cs t hne h => hk.blk h hne) (by omega) (by omega) (hk.below h3.bel (fun k e => by omega)) hk.size, hk.blk h4 (by omega), hk.blk h5 (by omega)⟩

theorem kf_of_kp' {A B : World} {S : Nat → Prop} {D : Nat} (h : Kp A B S) (hD : ∀ k o, D ≤ k → A.heap[k]? = some o → o.isCells = false → ¬ S k) : KeepsFrom D A B :=
  ⟨h.size, fun k o hk hg hc => (h.block k (Array.getElem?_eq_some_iff.1 hg).1 (hD k o hk hg hc)).trans hg⟩

/-- the results of scan -/
theorem res40 (tmps : Array Value) (w : World) (a2 a3 : Nat) (p : Value) (t : Int) (h2 : tmps[2]?.getD undef = .pointer (some ⟨a2, 0, none⟩)) (h3 : tmps[3]?.getD undef = .pointer (some ⟨a3, 0, none⟩)) (c2 : w.cell? ⟨a2, 0, none⟩ = some p) (c3 : w.cell? ⟨a3, 0, none⟩ = some (.int .u8 t)) :
    (results Tryd.f40 tmps).run Tryd.prog w = .ok (.tuple #[p, .int .u8 t]) w := by
  have hr : Tryd.f40.results = #[.cell 2 29, .cell 3 5] := rfl
  simp [results, hr, h2, h3, go_sem, c2, c3]

/-- what scan says -/
def Sc40 (w : World) (st : St) (t : Nat) (e : Ending) (w' : World) : Prop :=
  ∃ L, e = .returned (.tuple #[.pointer (some ⟨L, 0, none⟩), .int .u8 t]) ∧ w.heap.size ≤ L ∧
      ∃ v, Blk w' L 68 (lg (.pointer none) v st.last st.size false) ∧ w'.ownsRow w.heap.size 9 1 v st.recs.length (scs st.recs) ∧ Below w.heap.size w w'
theorem fin40 {w W : World} {D : Nat} {st : St} {t : Nat} (hD : w.heap.size + 5 ≤ D) (hM : ScM w (w.heap.size + 1 + 1) w.heap.size (w.heap.size + 1) (w.heap.size + 1 + 1 + 1) (w.heap.size + 4) st W)
    (h2 : Blk W w.heap.size 29 #[.pointer (some ⟨w.heap.size + 1 + 1, 0, none⟩)]) (h3 : Blk W (w.heap.size + 1) 5 #[.int .u8 t]) (hK : W.heap[D]? = some (.deferred (some []))) (tmps : Array Value)
    (t2 : tmps[2]?.getD undef = .pointer (some ⟨w.heap.size, 0, none⟩)) (t3 : tmps[3]?.getD undef = .pointer (some ⟨w.heap.size + 1, 0, none⟩)) :
    LeavesInM Fence.wide 3 Tryd.prog Tryd.f40 tmps (Sc40 w st t) [{ target := .collected D, args := #[] }] .returning W := by
  have kk : Kp W (W.putObj D (.deferred none)) (fun k => k = D) :=
    ⟨rfl, rfl, rfl, (grownBy_putObj' W D (.deferred none)).size, fun k hk hn => World.putObj_heap_other (by omega)⟩
  have b2 := kk.blk h2 (by omega)
  have b3 := kk.blk h3 (by omega)
  refine ⟨by simp, .inl ⟨_, _, rfl, run_takeDeferred hK, ?_⟩⟩
  refine ⟨_, res40 tmps _ _ _ _ _ t2 t3 (b2.cell 0 _ rfl) (b3.cell 0 _ rfl), w.heap.size + 1 + 1, rfl, by omega, ?_⟩
  obtain ⟨v, q1, q2, q3⟩ := hM.log
  refine ⟨v, kk.blk q1 (by omega), kk.row q2 (fun k hk hs => ?_), kk.below hM.bel (fun k hs => by omega)⟩
  subst hs
  rcases q2.2 with ⟨rfl, _⟩ | ⟨g, cap, cur, rfl, _, hgg, _⟩
  · cases hk
  · obtain rfl : g = k := by simpa [Value.ownBlock] using hk
    rw [hgg] at hK
    cases hK

/-- the results are set -/
theorem setres {w W : World} {st : St} (hM : ScM w (w.heap.size + 1 + 1) w.heap.size (w.heap.size + 1) (w.heap.size + 1 + 1 + 1) (w.heap.size + 4) st W) {u u' : Value} (h2 : Blk W w.heap.size 29 #[u]) (h3 : Blk W (w.heap.size + 1) 5 #[u']) (p q : Value) :
    Kp W ((W.setCell ⟨w.heap.size, 0, none⟩ p).setCell ⟨w.heap.size + 1, 0, none⟩ q) (fun k => k = w.heap.size ∨ k = w.heap.size + 1) ∧
    ScM w (w.heap.size + 1 + 1) w.heap.size (w.heap.size + 1) (w.heap.size + 1 + 1 + 1) (w.heap.size + 4) st ((W.setCell ⟨w.heap.size, 0, none⟩ p).setCell ⟨w.heap.size + 1, 0, none⟩ q) ∧
    Blk ((W.setCell ⟨w.heap.size, 0, none⟩ p).setCell ⟨w.heap.size + 1, 0, none⟩ q) w.heap.size 29 #[p] ∧ Blk ((W.setCell ⟨w.heap.size, 0, none⟩ p).setCell ⟨w.heap.size + 1, 0, none⟩ q) (w.heap.size + 1) 5 #[q] := by
  have k1 := Kp.set W w.heap.size 0 p
  have b2 := Blk.set h2 0 p
  have b3 := k1.blk h3 (by omega)
  have k2 := Kp.set (W.setCell ⟨w.heap.size, 0, none⟩ p) (w.heap.size + 1) 0 q
  have c3 := Blk.set b3 0 q
  have c2 := k2.blk b2 (by omega)
  have kk : Kp W ((W.setCell ⟨w.heap.size, 0, none⟩ p).setCell ⟨w.heap.size + 1, 0, none⟩ q) (fun k => k = w.heap.size ∨ k = w.heap.size + 1) :=
    (k1.mono fun k _ h => .inl h).trans (k2.mono fun k _ h => .inr h)
  refine ⟨kk, ⟨?_, kk.blk hM.t4 (by omega), kk.below hM.bel (fun k hs => by omega), Nat.le_trans hM.siz kk.size⟩, c2, c3⟩
  obtain ⟨v, q1, q2, q3⟩ := hM.log
  refine ⟨v, kk.blk q1 (by omega), kk.row q2 (fun k hk hs => ?_), q3⟩
  rcases hs with rfl | rfl
  · exact row_ne h2 q2 (show (9 : TypeId) ≠ 29 by decide) hk
  · exact row_ne h3 q2 (show (9 : TypeId) ≠ 5 by decide) hk

/-- a round leaves the loop -/
theorem leave {w W0 W : World} {all : Bs} {D : Nat} (hD : w.heap.size + 5 ≤ D) (hB : Below W0.heap.size W0 W) {p : List Bs} {x : Bs} {tail : Nat} (hp : taken p) (hok : p ++ [x] <+: lns all)
    (hM : ScM w (w.heap.size + 1 + 1) w.heap.size (w.heap.size + 1) (w.heap.size + 1 + 1 + 1) (w.heap.size + 4) (run p) W) {u u' : Value} (h2 : Blk W w.heap.size 29 #[u]) (h3 : Blk W (w.heap.size + 1) 5 #[u'])
    (ht : (tail = 1 ∧ ends x = false) ∨ (tail = 2 ∧ ends x = true ∧ goodB (run p).last x = false)) :
    KeepsFrom D W0 ((W.setCell ⟨w.heap.size, 0, none⟩ (.pointer (some ⟨w.heap.size + 1 + 1, 0, none⟩))).setCell ⟨w.heap.size + 1, 0, none⟩ (.int .u8 (tail : Nat))) ∧
    ScX w all (p ++ [x]) ((W.setCell ⟨w.heap.size, 0, none⟩ (.pointer (some ⟨w.heap.size + 1 + 1, 0, none⟩))).setCell ⟨w.heap.size + 1, 0, none⟩ (.int .u8 (tail : Nat))) := by
  have k1 := Kp.set W w.heap.size 0 (.pointer (some ⟨w.heap.size + 1 + 1, 0, none⟩))
  have b2 := Blk.set h2 0 (.pointer (some ⟨w.heap.size + 1 + 1, 0, none⟩))
  have b3 := k1.blk h3 (by omega)
  have k2 := Kp.set (W.setCell ⟨w.heap.size, 0, none⟩ (.pointer (some ⟨w.heap.size + 1 + 1, 0, none⟩))) (w.heap.size + 1) 0 (.int .u8 (tail : Nat))
  have c3 := Blk.set b3 0 (.int .u8 (tail : Nat))
  have c2 := k2.blk b2 (by omega)
  have kk : Kp W ((W.setCell ⟨w.heap.size, 0, none⟩ (.pointer (some ⟨w.heap.size + 1 + 1, 0, none⟩))).setCell ⟨w.heap.size + 1, 0, none⟩ (.int .u8 (tail : Nat))) (fun k => k = w.heap.size ∨ k = w.heap.size + 1) :=
    (k1.mono fun k _ h => .inl h).trans (k2.mono fun k _ h => .inr h)
  refine ⟨kf_of_kp' ((Kp.of_below hB _).trans kk) (fun k o hk _ _ hs => by omega), p, x, tail, rfl, hp, hok, ⟨?_, kk.blk hM.t4 (by omega), kk.below hM.bel (fun k hs => by omega), Nat.le_trans hM.siz kk.size⟩, c2, c3, ht⟩
  obtain ⟨v, q1, q2, q3⟩ := hM.log
  refine ⟨v, kk.blk q1 (by omega), kk.row q2 (fun k hk hs => ?_), q3⟩
  rcases hs with rfl | rfl
  · exact row_ne h2 q2 (show (9 : TypeId) ≠ 29 by decide) hk
  · exact row_ne h3 q2 (show (9 : TypeId) ≠ 5 by decide) hk

/-- a round goes on -/
theorem goes {w W0 W w7 : World} {all : Bs} {D : Nat} (hD : w.heap.size + 5 ≤ D) (hB : Below W0.heap.size W0 W) {p : List Bs} {x : Bs} (hp : taken p) (hok : p ++ [x] <+: lns all) (he : ends x = true) (hg : goodB (run p).last x = true)
    (hM : ScM w (w.heap.size + 1 + 1) w.heap.size (w.heap.size + 1) (w.heap.size + 1 + 1 + 1) (w.heap.size + 4) (run p) W) (h2 : Blk W w.heap.size 29 #[.pointer none]) (h3 : Blk W (w.heap.size + 1) 5 #[.int .u8 0]) {v v7 : Value} (hW0 : w.heap.size + 5 ≤ W0.heap.size)
    (hrow : W.ownsRow w.heap.size 9 1 v (run p).recs.length (scs (run p).recs)) (hne : v.ownBlock ≠ some (w.heap.size + 4))
    (hL7 : Blk w7 (w.heap.size + 1 + 1) 68 (lg (.pointer none) v7 (chk (run p).last (mid x)) ((run p).size + (mid x).length + 6) false)) (hr7 : w7.ownsRow w.heap.size 9 1 v7 ((run p).recs.length + 1) (scs ((run p).recs ++ [mid x])))
    (hk7 : Kp W w7 (fun k => k = w.heap.size + 1 + 1 ∨ v.ownBlock = some k)) (hv7 : ∀ k, v7.ownBlock = some k → v.ownBlock = some k ∨ W.heap.size ≤ k) :
    KeepsFrom D W0 w7 ∧ (Below w.heap.size W0 w7 ∧ w7.heap[w.heap.size + 4]? = W0.heap[w.heap.size + 4]?) ∧ ScI w all (p ++ [x]) w7 := by
  have hbel : Below w.heap.size W w7 := hk7.below_n hM.bel.size (fun k hs => by
    rcases hs with rfl | hs
    · omega
    · exact row_ge hrow k hs)
  refine ⟨kf_of_kp' ((Kp.of_below hB _).trans hk7) (fun k o hk ho hc hs => ?_), ⟨(hB.mono (by omega)).trans hbel, (hk7.block _ (by have := hM.siz; omega) (by
      rintro (hs | hs)
      · omega
      · exact hne hs)).trans (hB.block _ (by omega))⟩, taken_snoc hp he hg, hok, ⟨⟨v7, ?_, ?_, ?_⟩, ?_, hM.bel.trans (hbel), Nat.le_trans hM.siz hk7.size⟩, ?_, ?_⟩
  · rcases hs with rfl | hs
    · omega
    · have ho' := (hB.block k (Array.getElem?_eq_some_iff.1 ho).1).trans ho
      rcases hrow.2 with ⟨rfl, _⟩ | ⟨g, cap, cur, rfl, _, hgg, _⟩
      · cases hs
      · obtain rfl : g = k := by simpa [Value.ownBlock] using hs
        rw [hgg] at ho'
        obtain rfl := Option.some.inj ho'
        simp [Obj.isCells] at hc
  · rw [run_snoc]; exact hL7
  · rw [run_snoc]; simpa [St.add] using hr7
  · intro hs
    have hz := hM.siz
    rcases hv7 _ hs with h | h
    · exact hne h
    · omega
  · exact hk7.blk hM.t4 (by
      rintro (hs | hs)
      · omega
      · exact row_ne hM.t4 hrow (show (9 : TypeId) ≠ 29 by decide) hs)
  · exact hk7.blk h2 (by
      rintro (hs | hs)
      · omega
      · exact row_ne h2 hrow (show (9 : TypeId) ≠ 29 by decide) hs)
  · exact hk7.blk h3 (by
      rintro (hs | hs)
      · omega
      · exact row_ne h3 hrow (show (9 : TypeId) ≠ 5 by decide) hs)

set_option maxRecDepth 100000 in
set_option maxHeartbeats 2000000 in
theorem scan_any (A : Option Addr) (b : Bs) (c : Nat) (w : World) (hr : Rd w w.heap.size A (bcs b)) (hcap : b.length ≤ c) (hlen : b.length ≤ 2000000) (hT : Tb w) :
    Calls Tryd.prog 40 #[.slice A b.length c] w (Sc40 w (scanS b).1 (scanS b).2) := by
  refine (callsIn_wide (n := 3)).1 ?_
  refine callsIn_of_wp_marks Tryd.func40 rfl trivial ?_ rfl
  simp only [Tryd.ntmps40, List.size_toArray, List.length_cons, List.length_nil, Nat.reduceAdd, Nat.reduceSub, Array.replicate_succ, Array.replicate_zero, List.push_toArray, List.append_toArray, List.nil_append, List.cons_append]
  gi_wp2_with fail
  refine ⟨trivial, (callsIn_wide.2 (lines_any _ _ A b.length c rfl)).mono ?_⟩
  rintro e w5 ⟨rfl, h5⟩
  have m2 := (((Blk.new w #[.pointer none] 29).alloc (.cells #[.int .u8 0] 5)).alloc (.cells #[.pointer none, .slice none 0 0, .int .i64 1, .int .i64 0, .bool false] 68)).alloc (.cells #[.pointer (some ⟨w.heap.size + 1 + 1, 0, none⟩)] 29)
  have m3 := (((Blk.new (w.alloc (.cells #[.pointer none] 29)) #[.int .u8 0] 5)).alloc (.cells #[.pointer none, .slice none 0 0, .int .i64 1, .int .i64 0, .bool false] 68)).alloc (.cells #[.pointer (some ⟨w.heap.size + 1 + 1, 0, none⟩)] 29)
  have mL := ((Blk.new ((w.alloc (.cells #[.pointer none] 29)).alloc (.cells #[.int .u8 0] 5)) #[.pointer none, .slice none 0 0, .int .i64 1, .int .i64 0, .bool false] 68)).alloc (.cells #[.pointer (some ⟨w.heap.size + 1 + 1, 0, none⟩)] 29)
  have m4 := Blk.new (((w.alloc (.cells #[.pointer none] 29)).alloc (.cells #[.int .u8 0] 5)).alloc (.cells #[.pointer none, .slice none 0 0, .int .i64 1, .int .i64 0, .bool false] 68)) #[.pointer (some ⟨w.heap.size + 1 + 1, 0, none⟩)] 29
  have hb4 : Below w.heap.size w ((((w.alloc (.cells #[.pointer none] 29)).alloc (.cells #[.int .u8 0] 5)).alloc (.cells #[.pointer none, .slice none 0 0, .int .i64 1, .int .i64 0, .bool false] 68)).alloc (.cells #[.pointer (some ⟨w.heap.size + 1 + 1, 0, none⟩)] 29)) :=
    ((((Below.refl _ _).alloc (Nat.le_refl _) _).alloc (by simp) _).alloc (by simp; omega) _).alloc (by simp; omega) _
  have hs4 : ((((w.alloc (.cells #[.pointer none] 29)).alloc (.cells #[.int .u8 0] 5)).alloc (.cells #[.pointer none, .slice none 0 0, .int .i64 1, .int .i64 0, .bool false] 68)).alloc (.cells #[.pointer (some ⟨w.heap.size + 1 + 1, 0, none⟩)] 29)).heap.size = w.heap.size + 4 := by simp
  simp only [World.size_alloc] at m2 m3 mL m4
  generalize ((((w.alloc (.cells #[.pointer none] 29)).alloc (.cells #[.int .u8 0] 5)).alloc (.cells #[.pointer none, .slice none 0 0, .int .i64 1, .int .i64 0, .bool false] 68)).alloc (.cells #[.pointer (some ⟨w.heap.size + 1 + 1, 0, none⟩)] 29)) = w4 at *
  have m5 := Blk.new w4 #[.slice A b.length c] 26
  rw [← h5, hs4] at m5
  replace m2 := m2.alloc (.cells #[.slice A b.length c] 26)
  replace m3 := m3.alloc (.cells #[.slice A b.length c] 26)
  replace mL := mL.alloc (.cells #[.slice A b.length c] 26)
  replace m4 := m4.alloc (.cells #[.slice A b.length c] 26)
  have hb5 := hb4.alloc (by omega) (.cells #[.slice A b.length c] 26)
  have hs5 : w5.heap.size = w.heap.size + 5 := by rw [h5]; simp; omega
  rw [← h5] at m2 m3 mL m4 hb5
  rw [hs4]
  clear hb4 hs4 h5
  gi_wp2_with fail
  refine range_st (F := Fence.wide) rfl (by omega) (gf := 68) (lb := #[.pointer (some ⟨w.heap.size + 4, 0, none⟩)]) rfl trivial (enters_of Tryd.func68 (by kernel_rfl) (by kernel_rfl))
    (lines1_in (3 - 1) (w.heap.size + 4) w.heap.size (by omega) b hlen A c hcap)
    (fun A B h => kf_of_kp h (by omega)) (fun h k => ⟨h.1.trans k.1, k.2.trans h.2⟩)
    (fun W l o o' hl h ho => ⟨(Below.refl _ W).grown (grownBy_putObj' W l o') (by have := (Array.getElem?_eq_some_iff.1 h).1; omega) (fun k e => by cases e; omega), World.putObj_heap_other (by omega)⟩)
    (fun W hg => ⟨(hg.block _ (by omega) (by simp)).trans m5, hr.keep (hb5.grown hg (by omega) (fun k e => by cases e)) (Nat.le_refl _)⟩) (fun _ => rfl)
    (ScI w b) (ScX w b) (ScI.own w b (by omega)) (ScX.own w b (by omega)) (ScI.ab w b)
    ⟨taken_nil, List.nil_prefix, ⟨⟨.slice none 0 0, mL, World.ownsRow_nil _ _ _ _, by simp [Value.ownBlock]⟩, m4, hb5, by omega⟩, m2, m3⟩
    (fun x => { tmps := #[Value.slice A (List.length b) c, undef, Value.pointer (some { block := w.heap.size, off := 0 }),
          Value.pointer (some { block := w.heap.size + 1, off := 0 }),
          Value.pointer (some { block := w.heap.size + 1 + 1 + 1, off := 0 }), .string ⟨x.toArray⟩,
          Value.agg
            #[Value.pointer none, Value.slice none 0 0, Value.int IntKind.i64 1, Value.int IntKind.i64 0,
              Value.bool false],
          Value.pointer (some { block := w.heap.size + 1 + 1, off := 0 }), Value.slice A (List.length b) c,
          Value.func (Fn.func 68) #[] #[Value.pointer (some { block := w.heap.size + 4, off := 0 })], .string ⟨x.toArray⟩, undef,
          undef, undef, undef, undef, undef, undef, undef, undef, undef, undef, undef, undef, undef, undef, undef,
          undef, undef, undef, undef, undef, undef], defers := [] }) ?assign ?body ?done ?stop
  case assign =>
    intro l x W K hK
    gi_wp2
    exact hK
  case body =>
    rintro l pre x W ⟨ht, hp, hM, h2, h3⟩ hok
    obtain ⟨v, hL, hrow, hne⟩ := hM.log
    have c4 := hM.t4.cell 0 (.pointer (some ⟨w.heap.size + 1 + 1, 0, none⟩)) rfl
    have cl := hL.cell 2 (.int .i64 (run pre).last) rfl
    have c2 := h2.cell 0 (.pointer none) rfl
    have f2 := h2.frozen 0
    have c3 := h3.cell 0 (.int .u8 0) rfl
    have f3 := h3.frozen 0
    have hxl : x.length ≤ 2000000 := by
      have h1 := flat_prefix hok
      rw [lns_flat _ _ rfl] at h1
      simp only [List.flatten_append, List.length_append, List.flatten_cons, List.flatten_nil, List.length_nil] at h1
      omega
    have hTW : Tb W := hT.below (B := w.heap.size) hM.bel hT.lt
    have HS : Hid (Calls Tryd.prog 58 #[.string ⟨x.toArray⟩, .string ⟨#[10]⟩] W fun e w' => e = .returned (.bool (ends x)) ∧ w' = W) := Lib.hid (Tryd.strings_HasSuffix ⟨x.toArray⟩ ⟨#[10]⟩ W (by show x.length ≤ _; omega))
    have HG : Hid (Calls Tryd.prog 59 #[.int .i64 (run pre).last, .string ⟨x.toArray⟩] W fun e w' => e = .returned (.bool (goodB (run pre).last x)) ∧ Below W.heap.size W w') := Lib.hid (good_any _ ⟨x.toArray⟩ W (by show x.length ≤ _; omega) (run_last pre) hTW)
    cases he : ends x
    · rw [he] at HS
      gi_wp2_with fail
      refine ⟨trivial, (CallsIn.inRound l (callsIn_wide.2 HS.out)).mono ?_⟩
      rintro e w' ⟨rfl, rfl⟩
      gi_wp2_with fail
      exact leave (D := w5.heap.size) (by omega) (Below.refl _ _) ht hok hM h2 h3 (.inl ⟨rfl, he⟩)
    · rw [he] at HS
      gi_wp2_with fail
      refine ⟨trivial, (CallsIn.inRound l (callsIn_wide.2 HS.out)).mono ?_⟩
      rintro e w' ⟨rfl, rfl⟩
      gi_wp2_with fail
      refine ⟨trivial, (CallsIn.inRound l (callsIn_wide.2 HG.out)).mono ?_⟩
      rintro e w6 ⟨rfl, hb6⟩
      have hsW := hM.siz
      have kB := fun (k : Nat) (cs : Array Value) (t : Nat) (h : Blk w' k t cs) => (hb6.block k h.lt).trans h
      have hM6 := hM.keep (W' := w6) (fun k cs t _ h => kB k cs t h) (by omega) (by omega) (hM.bel.trans (hb6.mono hM.bel.size)) hb6.size
      have h26 := kB _ _ _ h2
      have h36 := kB _ _ _ h3
      have hT6 : Tb w6 := hTW.below (B := w'.heap.size) hb6 hTW.lt
      clear kB hM h2 h3 c4 cl c2 f2 c3 f3 hL hrow hne
      obtain ⟨v, hL, hrow, hne⟩ := hM6.log
      have c4 := hM6.t4.cell 0 (.pointer (some ⟨w.heap.size + 1 + 1, 0, none⟩)) rfl
      have c2 := Blk.cell h26 0 (.pointer none) rfl
      have f2 := Blk.frozen h26 0
      have c3 := Blk.cell h36 0 (.int .u8 0) rfl
      have f3 := Blk.frozen h36 0
      cases hg : goodB (run pre).last x
      · gi_wp2_with fail
        exact leave (D := w5.heap.size) (by omega) hb6 ht hok hM6 h26 h36 (.inr ⟨rfl, he, hg⟩)
      · obtain ⟨g6, g200, gm⟩ := good_len hg
        have hzz := run_size pre.length pre rfl ht
        have hfl := flat_prefix hp
        rw [lns_flat _ _ rfl] at hfl
        have hrl : (run pre).recs.length ≤ 1000000000 := by
          rw [hzz.1]
          have := len_flat pre (fun y hy => by
            obtain ⟨k, hk⟩ := List.getElem?_of_mem hy
            have := (good_len (ht k y hk).2).1
            omega)
          omega
        have hte : ((⟨x.toArray⟩ : ByteArray).extract 5 (x.length - 1)).data.toList = mid x := mid_size (s := ⟨x.toArray⟩) g6
        have htz : ((⟨x.toArray⟩ : ByteArray).extract 5 (x.length - 1)).size = (mid x).length := by rw [← hte, len_toList]
        have HA := add_any w.heap.size (w.heap.size + 1 + 1) (.pointer none) v (run pre).recs (run pre).last (run pre).size false ((⟨x.toArray⟩ : ByteArray).extract 5 (x.length - 1)) w6.drew hL hrow hM6.bel.size hT.lt (by omega) (hT6.below (B := w6.heap.size) (Below.refl _ _).drew hT6.lt) (run_last pre) (by omega) (by rw [hzz.2]; omega) hrl
        rw [hte, htz] at HA
        have HA' := Lib.hid HA
        have hC : (5 : Int) ≤ (x.length : Int) - 1 := by omega
        have hD : (x.length : Int) - 1 ≤ (x.length : Int) := by omega
        have hw : IntKind.i64.wrap ((x.length : Int) - 1) = (x.length : Int) - 1 := IntWalk.i64_in _ (by omega)
        have hmx : Tryd.prog.follows .mixedOrders = true := by kernel_rfl
        have h7 : 5 ≤ x.length - 1 := by omega
        have hrow' := Lib.hid hrow
        have hne' := hne
        have hW' := hsW
        clear HA hL hrow hne c2 f2 c3 f3 hte htz hzz hfl hrl
        gi_wp2_with fail
        gi_region_with_o (refine ⟨trivial, ?_⟩; gi_at_call 38; refine (CallsIn.inRound l (callsIn_wide.2 HA'.out)).mono ?_; rintro e w7 ⟨⟨u, rfl⟩, v7, hL7, hr7, hk7, hv7⟩)
        all_goals gi_wp2_with fail
        all_goals exact goes (D := w5.heap.size) (by omega) hb6 ht hok he hg hM6 h26 h36 hW' hrow'.out hne' hL7 hr7 ((Kp.of_below (Below.refl _ _).drew _).trans hk7) hv7
  case done =>
    rintro D xs W hD rfl ⟨ht, hp, hM, h2, h3⟩ hK
    have c4 := hM.t4.cell 0 (.pointer (some ⟨w.heap.size + 1 + 1, 0, none⟩)) rfl
    have c2 := h2.cell 0 (.pointer none) rfl
    have f2 := h2.frozen 0
    have c3 := h3.cell 0 (.int .u8 0) rfl
    have f3 := h3.frozen 0
    gi_wp2_with fail
    obtain ⟨kk, q1, q2, q3⟩ := setres hM h2 h3 (.pointer (some ⟨w.heap.size + 1 + 1, 0, none⟩)) (.int .u8 0)
    have hsc : scanS b = (run (lns b), 0) := by
      have := sgo_taken _ _ rfl ht []
      rw [List.append_nil] at this
      exact this
    rw [hsc]
    exact fin40 (t := 0) (by omega) q1 q2 q3 ((kf_of_kp' (D := D) kk (fun k o hk _ _ hs => by omega)).same _ _ (Nat.le_refl _) hK rfl) _ rfl rfl
  case stop =>
    rintro D pre W hD hpre ⟨p, x, tail, rfl, h1, h2, h3, h4, h5, h6⟩ hK
    gi_wp2_with fail
    have hsc : scanS b = (run p, tail) := by
      obtain ⟨q, hq⟩ := h2
      have := sgo_taken _ _ rfl h1 (x :: q)
      unfold scanS
      rw [← hq, List.append_assoc, List.singleton_append, this]
      rcases h6 with ⟨rfl, he⟩ | ⟨rfl, he, hg⟩
      · simp [sgo, he]
      · simp [sgo, he, hg]
    rw [hsc]
    exact fin40 (by omega) h3 h4 h5 hK _ rfl rfl
end Go.Proofs.YtandanbojfdfjaaDoor
