import Derived.Test.YtandanbojfdfjaaDoorDo6
import Derived.Great.BuildSlice
import Derived.Deep.CutBlock
namespace Go.Proofs.YtandanbojfdfjaaDoor
open Go.ChangeShapes Go.WideShapes Go.ChangeAt Go.RowKit

/-- a list of steps in memory -/
structure Steps (w : World) (Al : Option Addr) (m : Nat) (kd : Nat → Nat) (tx : Nat → ByteArray) (nn : Nat → Int) : Prop where
  at_ : 0 < m → ∃ bl ol, Al = some ⟨bl, ol, none⟩ ∧ bl < w.heap.size ∧ ∀ k, k < m → w.cell? ⟨bl, ol + k * 3, none⟩ = some (.int .u8 (kd k : Int)) ∧ w.cell? ⟨bl, ol + k * 3 + 1, none⟩ = some (.string (tx k)) ∧ w.cell? ⟨bl, ol + k * 3 + 2, none⟩ = some (.int .i64 (nn k))
  kd : ∀ k, k < m → kd k < 256
  tx : ∀ k, k < m → (tx k).size ≤ 300
  nn : ∀ k, k < m → -(2^63) ≤ nn k ∧ nn k < 2^63
theorem Steps.below {w w' : World} {Al : Option Addr} {m : Nat} {kd : Nat → Nat} {tx : Nat → ByteArray} {nn : Nat → Int} (h : Steps w Al m kd tx nn) (hb : Below w.heap.size w w') : Steps w' Al m kd tx nn :=
  ⟨fun h0 => by
    obtain ⟨bl, ol, e, hl, hc⟩ := h.at_ h0
    exact ⟨bl, ol, e, Nat.lt_of_lt_of_le hl hb.size, fun k hk => ⟨(bcell hb bl _ hl).trans (hc k hk).1, (bcell hb bl _ hl).trans (hc k hk).2.1, (bcell hb bl _ hl).trans (hc k hk).2.2⟩⟩, h.kd, h.tx, h.nn⟩

theorem di_init {w w3 w4 : World} {a3 a4 : Option Addr} {n c3 c4 B : Nat} {b : Bs} {p : Int} (h3 : Own w w3 5 1 (.slice a3 n c3) n (bcs b)) (h4 : Own (w3.alloc (.cells (dsk (.slice a3 n c3) p) 28)) w4 5 1 (.slice a4 n c4) n (bcs b)) (hn : b.length = n) (hB : n ≤ B) (hl : -(2^63) ≤ p) (hh : p < 2^63) :
    DI w ((w4.alloc (.cells (dsk (.slice a4 n c4) p) 83)).alloc (.cells (rl (.slice none 0 0) 0 0 false) 77)) w3.heap.size w4.heap.size (w4.heap.size + 1) (.pointer none) B := by
  have e1 := below_alloc w3 (.cells (dsk (.slice a3 n c3) p) 28)
  have e2 := below_alloc w4 (.cells (dsk (.slice a4 n c4) p) 83)
  have e3 := below_alloc (w4.alloc (.cells (dsk (.slice a4 n c4) p) 83)) (.cells (rl (.slice none 0 0) 0 0 false) 77)
  have hs1 : (w3.alloc (.cells (dsk (.slice a3 n c3) p) 28)).heap.size = w3.heap.size + 1 := World.size_alloc _ _
  have hs2 : (w4.alloc (.cells (dsk (.slice a4 n c4) p) 83)).heap.size = w4.heap.size + 1 := World.size_alloc _ _
  have hs4 := h4.bel.size
  have hs3 := h3.bel.size
  have e34 : Below w4.heap.size w4 _ := e2.trans (e3.mono e2.size)
  have eD : Below (w3.alloc (.cells (dsk (.slice a3 n c3) p) 28)).heap.size _ _ := h4.bel.trans (e34.mono h4.bel.size)
  have e03 : Below w3.heap.size w3 _ := e1.trans (eD.mono e1.size)
  have hb3 : By w3 (.slice a3 n c3) b := By.row (base := w.heap.size) (by rw [hn]; exact h3.row)
  have hb4 : By w4 (.slice a4 n c4) b := By.row (base := (w3.alloc (.cells (dsk (.slice a3 n c3) p) 28)).heap.size) (by rw [hn]; exact h4.row)
  have hY := Blk.new (w4.alloc (.cells (dsk (.slice a4 n c4) p) 83)) (rl (.slice none 0 0) 0 0 false) 77
  rw [hs2] at hY
  refine ⟨b, p, ⟨[], 0, 0⟩, false, none, (Value.slice a3 n c3).ownBlock, (Value.slice a4 n c4).ownBlock, none, ⟨⟨_, rfl, (Blk.new w3 _ 28).below eD, hb3.below e03⟩, ⟨_, rfl, (Blk.new w4 _ 83).below (by rw [hs2]; rw [hs2] at e3; exact e3), hb4.below e34⟩, ⟨.slice none 0 0, rfl, hY, World.ownsRow_nil _ _ _ _⟩, ⟨rfl, rfl⟩, ?_, hs3, by omega, by omega, row_ge h3.row, fun k hk => ?_, (fun k hk => by cases hk), fun k hk e => ?_, (fun k hk => by cases hk)⟩, rfl, by omega, hl, hh, Nat.zero_le _, Nat.zero_le _⟩
  · exact h3.bel.trans (e03.mono hs3)
  · have := row_ge h4.row k hk; omega
  · have h1 := row_ge h4.row k e
    obtain ⟨cs, hcs⟩ := by_gblk hb3 k hk
    have := hcs.lt
    omega
theorem DI.below {w0 w w' : World} {D E Y B : Nat} {v : Value} (h : DI w0 w D E Y v B) (hb : Below w.heap.size w w') : DI w0 w' D E Y v B := by
  obtain ⟨b, p, s, cl, x, g, h, q, h1, h2⟩ := h
  exact ⟨b, p, s, cl, x, g, h, q, h1.below hb, h2⟩
theorem own_two (w3 : World) (o : Obj) : Own (w3.alloc o) ((w3.alloc o).alloc (.cells #[] 5)) 5 1 (.slice (some ⟨w3.heap.size + 1, 0, none⟩) 0 0) 0 [] := by
  have := Own.built (w3.alloc o) (w := w3.alloc o) (size := 1) 5 0 [] (Below.refl _ _) rfl (by omega)
  rw [World.size_alloc] at this
  exact this
set_option maxRecDepth 1000000 in
set_option maxHeartbeats 16000000 in
theorem does_any (A : Option Addr) (n c : Nat) (b : Bs) (p : Int) (Al : Option Addr) (m cl : Nat) (kd : Nat → Nat) (tx : Nat → ByteArray) (nn : Nat → Int) (w : World) (hr : Rd w w.heap.size A (bcs b)) (hn : b.length = n) (hc : n ≤ c) (hm : n ≤ 100000) (hl : -(2^63) ≤ p) (hh : p < 2^63) (hS : Steps w Al m kd tx nn) (hm2 : m ≤ 1000) (hT : Tb w) :
    Calls Tryd.prog 25 #[.slice A n c, .int .i64 p, .slice Al m cl] w fun e w' => e = .returned (.bool true) ∧ Below w.heap.size w w' := by
  have HR := Lib.hid hr
  have HN := Lib.hid hn
  have HT := Lib.hid hT
  have HS := Lib.hid hS
  clear hr hn hT hS
  go_enter Tryd.func25, Tryd.ntmps25
  go_upto_region 3 with (first | (at_builtin; refine ap_many rfl (.tmp 23) (.tmp 24) 26 rfl eByte A n c (bcs b) (Own.built w 5 0 [] (Below.refl _ _) rfl (by omega)) rfl rfl (by rw [Nat.mul_one, List.length_map]; exact HN.out) (HR.out.alloc _) (oneCells_bcs _) (by omega) ?_; intro v3 w3 own3 hsz3; rw [Nat.zero_add, List.nil_append] at own3; obtain ⟨a3, c3, rfl⟩ := row_slice own3.row; have HO3 := Lib.hid own3; have HR3 := Lib.hid (HR.out.now own3.bel); have HOw := Lib.hid (own_two w3 (.cells (dsk (.slice a3 n c3) p) 28)); clear own3) | (refine wpList_buildTo rfl 28 #[(0, .tmp 25), (1, .tmp 26)] rfl (some 27) rfl (dsk (.slice a3 n c3) p) (by kernel_rfl) ?_) | (at_builtin; refine ap_many rfl (.tmp 29) (.tmp 30) 26 rfl eByte A n c (bcs b) HOw.out rfl rfl (by rw [Nat.mul_one, List.length_map]; exact HN.out) ((HR3.out.alloc _).alloc _) (oneCells_bcs _) (by omega) ?_; intro v4 w4 own4 hsz4; rw [Nat.zero_add, List.nil_append] at own4; obtain ⟨a4, c4, rfl⟩ := row_slice own4.row; have HO4 := Lib.hid own4; clear own4) | (refine wpList_buildTo rfl 83 #[(0, .tmp 31), (1, .tmp 32)] rfl (some 33) rfl (dsk (.slice a4 n c4) p) (by kernel_rfl) ?_))
  have hinit := di_init (B := n) (p := p) HO3.out HO4.out HN.out (by omega) hl hh
  have HI0 : Hid (DI w ((w4.alloc (.cells (dsk (.slice a4 n c4) p) 83)).alloc (.cells #[Value.slice none 0 0, Value.int IntKind.i64 0, Value.int IntKind.i64 0, Value.bool false] 77)) w3.heap.size w4.heap.size (w4.heap.size + 1) (.pointer none) n) := Lib.hid hinit
  clear hinit hsz3 hsz4
  go_upto_region 4 with fail
  generalize (w4.alloc (.cells (dsk (.slice a4 n c4) p) 83)).alloc (.cells #[Value.slice none 0 0, Value.int IntKind.i64 0, Value.int IntKind.i64 0, Value.bool false] 77) = w6 at *
  generalize w4.heap.size + 1 = Y at *
  generalize w4.heap.size = E at *
  generalize w3.heap.size = D at *
  clear HO3 HO4 HR3 HOw HR
  go_wp2_with fail
  go_loopw [9, 37] (fun x i wr => ∃ k : Nat, k ≤ m ∧ i = .int .i64 k ∧ Hid (DI w wr D E Y x (n + 306 * k))) (fun _ i _ => m - (intOf i).toNat)
  case atStart => exact ⟨0, Nat.zero_le _, rfl, HI0⟩
  case round =>
    obtain ⟨k, hk, rfl, HI⟩ := hrel
    clear HI0
    by_cases hlt : k < m
    · have hbel : Below w.heap.size w wr := by
        obtain ⟨b', p', s', cl', x', g', h', q', H, _⟩ := HI.out
        exact H.bel
      have hSt := HS.out.below hbel
      obtain ⟨bl, ol, rfl, hbl, hcc⟩ := hSt.at_ (by omega)
      obtain ⟨k1, k2, k3⟩ := hcc k hlt
      have hkd := hSt.kd k hlt
      have htx := hSt.tx k hlt
      have hnn := hSt.nn k hlt
      obtain ⟨kdk, hkdk⟩ : ∃ kdk, kd k = kdk := ⟨_, rfl⟩
      obtain ⟨tk, htk⟩ : ∃ tk, tx k = tk := ⟨_, rfl⟩
      obtain ⟨nk, hnk⟩ : ∃ nk, nn k = nk := ⟨_, rfl⟩
      rw [hkdk] at k1 hkd
      rw [htk] at k2 htx
      rw [hnk] at k3 hnn
      obtain ⟨kk, hkk⟩ : ∃ kk, kdk % 8 = kk := ⟨_, rfl⟩
      have hq : ((kdk : Int) % 8) = (kk : Int) := by omega
      have hk8 : kk < 8 := by omega
      have HBl := Lib.hid hbel
      clear hSt hcc hkdk htk hnk hkk hbel
      go_upto_block 2 with fail
      rw [hq]
      have ha := below_alloc wr (.cells #[Value.int IntKind.u8 (kdk : Int), Value.string tk, Value.int IntKind.i64 nk] 54)
      have HIz := Lib.hid (HI.out.below ha)
      have HTz := Lib.hid (Blk.new wr #[Value.int IntKind.u8 (kdk : Int), Value.string tk, Value.int IntKind.i64 nk] 54)
      have HBz := Lib.hid (HBl.out.trans (ha.mono HBl.out.size))
      clear ha k1 k2 k3 hq
      generalize wr.alloc (.cells #[Value.int IntKind.u8 (kdk : Int), Value.string tk, Value.int IntKind.i64 nk] 54) = wz at *
      refine do_all _ _ ?hp w wz D E Y wr.heap.size (n + 306 * k) kk (kdk : Int) nk tk _ htx (by omega) hnn.1 hnn.2 HIz HT HTz hk8 _ _ _ _ _ _ _ _ _ _ _ _ _ _ _ _ _ _ _ _ _ _ _ _ _ _ _ _ _ _ _ _ _ _ _ _ _ _ _ _ _ _ _ _ _ _ _ _ _ _ _ _ _ _ _ _ _ _ _ _ _ _ _ _ _ _ _ _ _ _ _ _ _ _ _ _ _ _ _ _ _ _ _ _ _ _ _ _ _ _ _ _ _ _ _ _ _ _ _ _ _ _ _ _ _ _ _ _ _ _ _ _ _ _ _ _ _ _ _ _ _ _ _ _ _ _ _ _ _ _ _ _ _ _ _ _ _ _ _ _ _ _ _ _ _ _ _ _ _ _ _ _ _ _ _ _ _ _ _ _ _ _ _ _ _ _ _ _ _ _ _ _ _ _ _ _ _ _ _ _ _ _ _ _ _ _ _ _ _ _ _ _ _ _ _ _ _ _ _ _ _ _ _ _ ?hk
      case hp => exact fun _ _ _ _ _ h => h
      intro x6 x9 x13 x14 x15 x16 x17 x18 x19 x20 x21 x22 x44 x45 x46 x47 x48 x49 x50 x51 x52 x53 x54 x55 x56 x57 x58 x59 x60 x61 x62 x63 x64 x65 x66 x67 x68 x69 x70 x71 x72 x73 x74 x75 x76 x77 x78 x79 x80 x81 x82 x83 x84 x85 x86 x87 x88 x89 x90 x91 x92 x93 x94 x95 x96 x97 x98 x99 x100 x101 x102 x103 x104 x105 x106 x107 x108 x109 x110 x111 x112 x113 x114 x115 x116 x117 x118 x119 x120 x121 x122 x123 x124 x125 x126 x127 x128 x129 x130 x131 x132 x133 x134 x135 x136 x137 x138 x139 x140 x141 x142 x143 x144 x145 x146 x147 x148 x149 x150 x151 x152 x153 x154 x155 x156 x157 x158 x159 x160 x161 x162 x163 x164 wx HIx
      obtain ⟨b2, p2, s2, cl2, x2, g2, h2, q2, HD2, hx9, _, _, _, _, hrl⟩ := HIx.out
      obtain ⟨n1, n2, c1, c2, c3', A1, A2, A3, hcmp⟩ := HD2.cmp (by omega)
      subst hx9
      have HCmp := Lib.hid hcmp
      clear hcmp HIz HTz HBz hrl
      have HD2 := Lib.hid HD2
      go_upto_region 34 with fail
      refine do_34 _ _ ?hp2 wx D E Y s2.recs.length n1 n2 c1 c2 c3' s2.last s2.size A1 A2 A3 x2.val _ p2 HCmp _ _ _ _ _ _ _ _ _ _ _ _ _ _ _ _ _ _ _ _ _ _ _ _ _ _ _ _ _ _ _ _ _ _ _ _ _ _ _ _ _ _ _ _ _ _ _ _ _ _ _ _ _ _ _ _ _ _ _ _ _ _ _ _ _ _ _ _ _ _ _ _ _ _ _ _ _ _ _ _ _ _ _ _ _ _ _ _ _ _ _ _ _ _ _ _ _ _ _ _ _ _ _ _ _ _ _ _ _ _ _ _ _ _ _ _ _ _ _ _ _ _ _ _ _ _ _ _ _ _ _ _ _ _ _ _ _ _ _ _ _ _ _ _ _ _ _ _ _ _ _ _ _ _ _ _ _ _ _ _ _ _ _ _ _ _ _ _ _ _ _ _ _ _ _ _ _ _ _ _ _ _ _ _ _ _ _ _ _ _ _ _ _ _ _ _ _ _ _ _ _ _ _ _ _ _ ?hk2
      case hp2 => exact fun _ _ _ _ _ h => h
      intro z165 z166 z167 z168 z169 z170 z171 z172 z173 z174 z175 z176 z177 z178 z179 z180 z181 z182 z183 z184 z185 z186 z187 z188 z189 z190 z191 z192 z193 z194 z195 z196 z197 z198 z199 z200 z201 z202 z203 z204 z205 z206 z207 wy HBy
      have HIy := Lib.hid (HIx.out.below HBy.out)
      clear HD2 HCmp HIx HBy
      go_wp2_with fail
      go_roundw
      case rel => exact ⟨k + 1, by omega, by go_num, Lib.hid (HIy.out.more (by omega))⟩
      case measure => simp [intOf]; omega
    · obtain rfl : k = m := by omega
      have HBl : Hid (Below w.heap.size w wr) := Lib.hid (by
        obtain ⟨b', p', s', cl', x', g', h', q', H, _⟩ := HI.out
        exact H.bel)
      go_wp2_with fail
      go_ret
      exact ⟨rfl, HBl.out⟩
end Go.Proofs.YtandanbojfdfjaaDoor
