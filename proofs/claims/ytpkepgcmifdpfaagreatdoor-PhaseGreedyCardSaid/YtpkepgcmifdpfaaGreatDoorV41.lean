/- A bundle of texts: RpA, RpD, RpE. -/
import Derived.Test.YtpkepgcmifdpfaaGreatDoorV40
import Derived.Test.YtpkepgcmifdpfaaGreatDoorV37
import Derived.Test.YtpkepgcmifdpfaaGreatDoorV33
import Derived.Test.YtpkepgcmifdpfaaGreatDoorV10
section
namespace Go.Proofs.YtpkepgcmifdpfaaGreatDoor
open Go Go.RowKit Go.Maps
set_option maxRecDepth 100000
theorem append_wp {α : Type} {P : Program} {size : Nat} {cell : α → Nat → Value} {w : World} {o : Oper} {a : Act} {K : Act → World → Prop} {Q : Exit → Act → World → Prop} (s x : Operand) (t : TypeId)
    (ho : o.op = .call { callee := .builtin .append, args := #[s, x], argTypes := #[t, t] })
    (base : Nat) (e : TypeId) (i : TypeInfo) (z : Value) (bytes : Nat) (ht : P.underlying t = some (.slice e)) (hi : P.info? e = some i) (hz : i.zero = some z)
    (hsize : i.size = size) (hby : i.bytes = bytes) (hzs : z.cells.size = size) (hsz : 0 < size)
    (v : Value) (n : Nat) (xs : List α) (hs : a.eval s = v) (hown : w.ownsRow base e size v n (flat size cell xs))
    (B : Nat) (A : Option Addr) (c : Nat) (ys : List α) (hx : a.eval x = .slice A ys.length c) (hr : Sl size cell w B A ys) (h1 : ∀ y j, (cell y j).oneCell' = true)
    (h63 : n + ys.length ≤ maxLen) (hbytes : (n + ys.length) * bytes ≤ 140737488355328) (hbase : base ≤ w.heap.size)
    (h : ∀ v' w', w'.ownsRow base e size v' (n + ys.length) (flat size cell (xs ++ ys)) → w.grownBy w' v.ownBlock → K (a.put o.dst v') w') :
    Oper.wp P o a w K Q := by
  obtain ⟨v', w', hrun, h2, h3⟩ := run_append_sl (P := P) w base t o.type e i z bytes ht hi hz hsize hby hzs hsz v n xs hown B A c ys hr h1 h63 hbytes hbase
  unfold Oper.wp execOp
  simp only [ho, resolve, invoke, builtin, Sem.run_bind, Sem.run_pure, Result.andThen_ok, List.map_toArray, List.map_cons, List.map_nil, hs, hx, hrun]
  exact h v' w' h2 h3
theorem Sl.drop1 {α : Type} {cell : α → Nat → Value} {w : World} {B : Nat} {A : Option Addr} {xs : List α} (h : Sl 1 cell w B A xs) {cap n : Nat} (hc : xs.length ≤ cap) : Sl 1 cell w B (if cap = n then A else A.map (·.add (n * 1))) (xs.drop n) := fun k hk => by
  rw [List.length_drop] at hk
  obtain ⟨ad, rfl, hb, hcell⟩ := h (n + k) (by omega)
  refine ⟨ad.add n, by rw [if_neg (by omega)]; simp, by rw [add_block]; exact hb, fun j hj => ?_⟩
  have := hcell j hj
  rw [Addr.add_add, List.getElem_drop]
  rw [show n + (k * 1 + j) = (n + k) * 1 + j by omega]
  exact this
theorem Sl.take1 {α : Type} {cell : α → Nat → Value} {w : World} {B : Nat} {A : Option Addr} {xs : List α} (h : Sl 1 cell w B A xs) {cap n : Nat} (hc : xs.length ≤ cap) : Sl 1 cell w B (if cap = 0 then A else A.map (·.add (0 * 1))) (xs.take n) := fun k hk => by
  rw [List.length_take] at hk
  have := (Sl.drop1 h (cap := cap) (n := 0) hc) k (by rw [List.length_drop]; omega)
  simpa using this
set_option maxHeartbeats 32000000 in
theorem sorted_reg8 {Q : Exit → Act → World → Prop} {cd : Code} {dl : List Deferred} {Z1 Z2 Z6 Z7 Z8 Z9 Za Zb Zc Zd Ze Zf Zg Zh Zi Zj Zk Zl Zm Zn Zo Zp Zq Zr Zs Zt Zu Zv Zw Zx Zy Zz Z10 Z11 Z12 Z13 Z14 Z15 Z16 Z17 : Value} {LA OA : Option Addr} {lc oc n m i k : Nat} {out : List Int} {x : Int} {X : World} (hO : Sl 1 icell X X.heap.size OA out) (hm : out.length = m) (hcap : m ≤ oc) (hx : ∃ la, LA = some la ∧ (la.add i).block < X.heap.size ∧ X.cell? (la.add i) = some (.int .i64 x)) (hin : i < n) (hk : k ≤ m) (hlen : m ≤ 1000000) (hcd : (Tryz.f22.body.bind (regionOf 8)) = some cd)
    (hQ : ∀ (y29 y30 y31 y32 y33 y34 y35 y36 y37 y38 y39 y40 y41 y42 : Value) (wo : World) (v : Value), wo.ownsRow X.heap.size 3 1 v (m + 1) (flat 1 icell (out.take k ++ [x] ++ out.drop k)) → Below X.heap.size X wo → Q .normal ⟨#[.slice LA n lc,Z1,Z2,v,.int .i64 (i : Nat),.int .i64 (k : Nat),Z6,Z7,Z8,Z9,Za,Zb,Zc,Zd,Ze,Zf,Zg,Zh,Zi,Zj,Zk,Zl,Zm,Zn,Zo,Zp,Zq,Zr,Zs,y29,y30,y31,y32,y33,y34,y35,y36,y37,y38,y39,y40,y41,y42,Z17], dl⟩ wo) :
    cd.wp Tryz.prog Q ⟨#[.slice LA n lc,Z1,Z2,.slice OA m oc,.int .i64 (i : Nat),.int .i64 (k : Nat),Z6,Z7,Z8,Z9,Za,Zb,Zc,Zd,Ze,Zf,Zg,Zh,Zi,Zj,Zk,Zl,Zm,Zn,Zo,Zp,Zq,Zr,Zs,Zt,Zu,Zv,Zw,Zx,Zy,Zz,Z10,Z11,Z12,Z13,Z14,Z15,Z16,Z17], dl⟩ X := by
  rw [show (Tryz.f22.body.bind (regionOf 8)) = some (Code.region 8 _ true) from rfl] at hcd
  obtain rfl := Option.some.inj hcd
  clear hcd
  dsimp only at hQ ⊢
  obtain ⟨ii, hii, hzi0, hzi1, hzi2⟩ := info_parts intInfoP
  have Hii := Lib.hid hii; have Hzi0 := Lib.hid hzi0; have Hzi1 := Lib.hid hzi1; have Hzi2 := Lib.hid hzi2
  clear hii hzi0 hzi1 hzi2
  obtain ⟨la, rfl, hlb, E00⟩ := hx
  have HQ := Lib.hid hQ
  clear hQ
  have y0 : (0 : Int) ≤ (i : Int) := by omega
  have y1 : (i : Int) < (n : Int) := by omega
  have y2 : (0 : Int) ≤ (k : Int) := by omega
  have y3 : (k : Int) ≤ (oc : Int) := by omega
  have y4 : (k : Int) ≤ (m : Int) := by omega
  have E0 : X.drew.cell? (la.add i) = some (.int .i64 x) := E00
  have hO1 : Sl 1 icell X.drew X.heap.size (if oc = 0 then OA else OA.map (·.add (0 * 1))) (out.take k) := Sl.take1 (hO : Sl 1 icell X.drew X.heap.size OA out) (by omega)
  have hO2 : Sl 1 icell X.drew X.heap.size (if oc = k then OA else OA.map (·.add (k * 1))) (out.drop k) := Sl.drop1 (hO : Sl 1 icell X.drew X.heap.size OA out) (by omega)
  obtain ⟨A1, hA1⟩ : ∃ A1, (if oc = 0 then OA else OA.map (·.add (0 * 1))) = A1 := ⟨_, rfl⟩
  obtain ⟨A2, hA2⟩ : ∃ A2, (if oc = k then OA else OA.map (·.add (k * 1))) = A2 := ⟨_, rfl⟩
  rw [hA1] at hO1
  rw [hA2] at hO2
  have hl1 : (out.take k).length = k := by rw [List.length_take]; omega
  have hl2 : (out.drop k).length = m - k := by rw [List.length_drop]; omega
  have hr1 : ∀ w, (Instr.slice 29 (.slice OA m oc) none (some (.int .i64 (k : Nat))) none).run Tryz.prog w = .ok (.slice A1 (out.take k).length oc) w := fun w => by
    rw [run_slice_h (ht := Tryz.underlying29) (h0 := y2) (h2 := y3), hl1, ← hA1]
    go_simp
  have hr2 : ∀ w, (Instr.slice 29 (.slice OA m oc) (some (.int .i64 (k : Nat))) none none).run Tryz.prog w = .ok (.slice A2 (out.drop k).length (oc - k)) w := fun w => by
    rw [run_slice_l (ht := Tryz.underlying29) (h0 := y2) (h1 := y4), hl2, ← hA2]
    go_simp
  have HL1 := Lib.hid hl1; have HL2 := Lib.hid hl2; have HM := Lib.hid hm
  have HO1 := Lib.hid hO1; have HO2 := Lib.hid hO2
  clear hO hO1 hO2 hl1 hl2 hm hA1 hA2 E00
  generalize (out.take k) = o1 at *
  generalize (out.drop k) = o2 at *
  refine wp_region_noPanic ?_
  refine wp_region_any (by kernel_rfl) ?_
  refine wpAny_of_L (S := (fun (_ : Array Bool) (w' : World) => w'.cell? (la.add i) = some (.int .i64 x))) _ _ _ _ ?_
  change wpAnyL Tryz.prog _ _ _ _ _ _ _ X.drew
  refine wpAnyL_take (i := 0) (q := 2) (v := .slice OA m oc) (fun w' => True) rfl (by kernel_rfl) (by kernel_rfl) (by kernel_rfl) (fun c a w h => h) rfl (by kernel_rfl) (by decide) (fun ls w => by simp) (fun ls w h1 h2 => trivial) rfl rfl (fun w h => by go_simp) E0 ?_
  try simp only [Act.put]
  refine wpAnyL_take (i := 1) (q := 2) (v := .int .i64 (k : Nat)) (fun w' => True) rfl (by kernel_rfl) (by kernel_rfl) (by kernel_rfl) (fun c a w h => h) rfl (by kernel_rfl) (by decide) (fun ls w => by simp) (fun ls w h1 h2 => trivial) rfl rfl (fun w h => by go_simp) E0 ?_
  try simp only [Act.put]
  refine wpAnyL_take (i := 2) (q := 3) (v := .slice A1 o1.length oc) (fun w' => True) rfl (by kernel_rfl) (by kernel_rfl) (by kernel_rfl) (fun c a w h => h) rfl (by kernel_rfl) (by decide) (fun ls w => by simp) (fun ls w h1 h2 => trivial) rfl rfl (fun w h => by go_simp) E0 ?_
  try simp only [Act.put]
  refine wpAnyL_take (i := 4) (q := 6) (v := .slice (some la) n lc) (fun w' => True) rfl (by kernel_rfl) (by kernel_rfl) (by kernel_rfl) (fun c a w h => h) rfl (by kernel_rfl) (by decide) (fun ls w => by simp) (fun ls w h1 h2 => trivial) rfl rfl (fun w h => by go_simp) E0 ?_
  try simp only [Act.put]
  refine wpAnyL_take (i := 5) (q := 6) (v := .int .i64 (i : Nat)) (fun w' => True) rfl (by kernel_rfl) (by kernel_rfl) (by kernel_rfl) (fun c a w h => h) rfl (by kernel_rfl) (by decide) (fun ls w => by simp) (fun ls w h1 h2 => trivial) rfl rfl (fun w h => by go_simp) E0 ?_
  try simp only [Act.put]
  refine wpAnyL_take (i := 6) (q := 7) (v := .pointer (some (la.add i))) (fun w' => True) rfl (by kernel_rfl) (by kernel_rfl) (by kernel_rfl) (fun c a w h => h) rfl (by kernel_rfl) (by decide) (fun ls w => by simp) (fun ls w h1 h2 => trivial) rfl rfl (fun w h => by go_simp) E0 ?_
  try simp only [Act.put]
  refine wpAnyL_take (i := 7) (q := 8) (v := .int .i64 x) (fun w' => w'.cell? (la.add i) = some (.int .i64 x)) rfl (by kernel_rfl) (by kernel_rfl) (by kernel_rfl) (fun c a w h => h) rfl (by kernel_rfl) (by decide) (fun ls w => by simp) (fun ls w h1 h2 => h2) rfl rfl (fun w h => by go_simp) E0 ?_
  try simp only [Act.put]
  refine wpAnyL_take (i := 10) (q := 12) (v := .slice OA m oc) (fun w' => True) rfl (by kernel_rfl) (by kernel_rfl) (by kernel_rfl) (fun c a w h => h) rfl (by kernel_rfl) (by decide) (fun ls w => by simp) (fun ls w h1 h2 => trivial) rfl rfl (fun w h => by go_simp) E0 ?_
  try simp only [Act.put]
  refine wpAnyL_take (i := 11) (q := 12) (v := .int .i64 (k : Nat)) (fun w' => True) rfl (by kernel_rfl) (by kernel_rfl) (by kernel_rfl) (fun c a w h => h) rfl (by kernel_rfl) (by decide) (fun ls w => by simp) (fun ls w h1 h2 => trivial) rfl rfl (fun w h => by go_simp) E0 ?_
  try simp only [Act.put]
  refine wpAnyL_take (i := 12) (q := 13) (v := .slice A2 o2.length (oc - k)) (fun w' => True) rfl (by kernel_rfl) (by kernel_rfl) (by kernel_rfl) (fun c a w h => h) rfl (by kernel_rfl) (by decide) (fun ls w => by simp) (fun ls w h1 h2 => trivial) rfl rfl (fun w h => by go_simp) E0 ?_
  try simp only [Act.put]
  have b0 : Below X.heap.size X.drew X.drew := (Below.refl X.heap.size X.drew)
  have n0 : X.drew.ownsRow X.heap.size 3 1 (.slice none 0 0) 0 (flat 1 icell []) := own_nil _ _ _ _ _
  refine wpAnyL_all (rs := [3, 8]) (by kernel_rfl) (by simp) (fun i0 hi0 => ?_)
  rcases List.mem_cons.1 hi0 with rfl | hi0
  · refine wpOp_K (fun K hK => ?_)
    refine wpOp_one rfl rfl ?_
    have hsz := b0.size
    refine append_wp (w := X.drew) (cell := icell) _ _ 29 rfl X.heap.size 3 ii _ 8 Tryz.underlying29 Hii.out Hzi0.out Hzi1.out Hzi2.out rfl (by decide) (.slice none 0 0) 0 [] (by simp [Act.eval]) n0 _ A1 oc o1 (by simp [Act.eval]) HO1.out (fun y j => by rcases j with _ | j <;> rfl) (by unfold maxLen; have := HL1.out; have := HL2.out; simp; omega) (by have := HL1.out; have := HL2.out; simp; omega) hsz ?_
    intro v1 w1 hw1 gw1
    have b1 : Below X.heap.size X.drew w1 := b0.grown gw1 b0.size (fun k e => (n0.lt k e).1)
    refine hK _ _ ⟨(b1.cell hlb).trans E0, ?_⟩
    clear hK K
    try simp only [Act.put]
    refine wpAnyL_one (i := 8) (by kernel_rfl) ?_
    refine wpOp_K (fun K hK => ?_)
    refine wpOp_one rfl rfl ?_
    go_simp
    have b2 : Below X.heap.size X.drew (w1.alloc (.cells #[.int .i64 x] 3)) := b1.alloc b1.size _
    have xU := Box.new w1 #[.int .i64 x] 3
    refine hK _ _ ⟨(b2.cell hlb).trans E0, ?_⟩
    clear hK K
    try simp only [Act.put]
    have n1 := hw1.alloc (.cells #[.int .i64 x] 3)
    have hx1 : Sl 1 icell _ _ (some ⟨w1.heap.size, 0, none⟩) [x] := Sl.of_box xU rfl
    obtain ⟨U, hU⟩ : ∃ U, w1.alloc (.cells #[.int .i64 x] 3) = U := ⟨_, rfl⟩
    rw [hU] at b2 n1 hx1 ⊢
    refine wpAnyL_one (i := 9) (by kernel_rfl) ?_
    refine wpOp_K (fun K hK => ?_)
    refine wpOp_one rfl rfl ?_
    replace hsz := b2.size
    refine append_wp (w := U) (cell := icell) _ _ 29 rfl X.heap.size 3 ii _ 8 Tryz.underlying29 Hii.out Hzi0.out Hzi1.out Hzi2.out rfl (by decide) v1 (0 + o1.length) ([] ++ o1) (by simp [Act.eval]) n1 _ (some ⟨w1.heap.size, 0, none⟩) 1 [x] (by simp [Act.eval]) hx1 (fun y j => by rcases j with _ | j <;> rfl) (by unfold maxLen; have := HL1.out; have := HL2.out; simp; omega) (by have := HL1.out; have := HL2.out; simp; omega) hsz ?_
    intro v2 w2 hw2 gw2
    have b3 : Below X.heap.size X.drew w2 := b2.grown gw2 b2.size (fun k e => (n1.lt k e).1)
    refine hK _ _ ⟨(b3.cell hlb).trans E0, ?_⟩
    clear hK K
    try simp only [Act.put]
    refine wpAnyL_one (i := 13) (by kernel_rfl) ?_
    refine wpOp_K (fun K hK => ?_)
    refine wpOp_one rfl rfl ?_
    replace hsz := b3.size
    refine append_wp (w := w2) (cell := icell) _ _ 29 rfl X.heap.size 3 ii _ 8 Tryz.underlying29 Hii.out Hzi0.out Hzi1.out Hzi2.out rfl (by decide) v2 (0 + o1.length + [x].length) ([] ++ o1 ++ [x]) (by simp [Act.eval]) hw2 _ A2 (oc - k) o2 (by simp [Act.eval]) (HO2.out.below b3) (fun y j => by rcases j with _ | j <;> rfl) (by unfold maxLen; have := HL1.out; have := HL2.out; simp; omega) (by have := HL1.out; have := HL2.out; simp; omega) hsz ?_
    intro v3 w3 hw3 gw3
    have b4 : Below X.heap.size X.drew w3 := b3.grown gw3 b3.size (fun k e => (hw2.lt k e).1)
    refine hK _ _ ⟨(b4.cell hlb).trans E0, ?_⟩
    clear hK K
    try simp only [Act.put]
    refine wpAnyL_one (i := 14) (by kernel_rfl) ?_
    refine wpOp_K (fun K hK => ?_)
    refine wpOp_one rfl rfl ?_
    go_simp
    refine hK _ _ ⟨(b4.cell hlb).trans E0, ?_⟩
    clear hK K
    try simp only [Act.put]
    refine wpAnyL_done (by kernel_rfl) (NoPanic.normal ?_) _
    refine HQ.out _ _ _ _ _ _ _ _ _ _ _ _ _ _ _ v3 ?_ ((Below.refl _ X).drew.trans b4)
    have e : 0 + o1.length + [x].length + o2.length = m + 1 := by rw [HL1.out, HL2.out]; simp; omega
    rw [e] at hw3
    simpa using hw3
  · obtain rfl := List.mem_singleton.1 hi0
    refine wpOp_K (fun K hK => ?_)
    refine wpOp_one rfl rfl ?_
    go_simp
    have b2 : Below X.heap.size X.drew (X.drew.alloc (.cells #[.int .i64 x] 3)) := b0.alloc b0.size _
    have xU := Box.new X.drew #[.int .i64 x] 3
    refine hK _ _ ⟨(b2.cell hlb).trans E0, ?_⟩
    clear hK K
    try simp only [Act.put]
    have n1 := n0.alloc (.cells #[.int .i64 x] 3)
    have hx1 : Sl 1 icell _ _ (some ⟨X.heap.size, 0, none⟩) [x] := Sl.of_box xU rfl
    change wpAnyL Tryz.prog _ _ _ _ _ _ _ (X.drew.alloc (.cells #[.int .i64 x] 3))
    obtain ⟨U, hU⟩ : ∃ U, X.drew.alloc (.cells #[.int .i64 x] 3) = U := ⟨_, rfl⟩
    rw [hU] at b2 n1 hx1 ⊢
    refine wpAnyL_one (i := 3) (by kernel_rfl) ?_
    refine wpOp_K (fun K hK => ?_)
    refine wpOp_one rfl rfl ?_
    have hsz := b2.size
    refine append_wp (w := U) (cell := icell) _ _ 29 rfl X.heap.size 3 ii _ 8 Tryz.underlying29 Hii.out Hzi0.out Hzi1.out Hzi2.out rfl (by decide) (.slice none 0 0) 0 [] (by simp [Act.eval]) n1 _ A1 oc o1 (by simp [Act.eval]) (HO1.out.below b2) (fun y j => by rcases j with _ | j <;> rfl) (by unfold maxLen; have := HL1.out; have := HL2.out; simp; omega) (by have := HL1.out; have := HL2.out; simp; omega) hsz ?_
    intro v1 w1 hw1 gw1
    have b1 : Below X.heap.size X.drew w1 := b2.grown gw1 b2.size (fun k e => (n1.lt k e).1)
    refine hK _ _ ⟨(b1.cell hlb).trans E0, ?_⟩
    clear hK K
    try simp only [Act.put]
    have hx2 : Sl 1 icell w1 w1.heap.size (some ⟨X.heap.size, 0, none⟩) [x] := (hx1.below ((Below.refl U.heap.size U).grown gw1 (Nat.le_refl _) (fun k e => by cases e))).more gw1.size
    refine wpAnyL_one (i := 9) (by kernel_rfl) ?_
    refine wpOp_K (fun K hK => ?_)
    refine wpOp_one rfl rfl ?_
    replace hsz := b1.size
    refine append_wp (w := w1) (cell := icell) _ _ 29 rfl X.heap.size 3 ii _ 8 Tryz.underlying29 Hii.out Hzi0.out Hzi1.out Hzi2.out rfl (by decide) v1 (0 + o1.length) ([] ++ o1) (by simp [Act.eval]) hw1 _ (some ⟨X.heap.size, 0, none⟩) 1 [x] (by simp [Act.eval]) hx2 (fun y j => by rcases j with _ | j <;> rfl) (by unfold maxLen; have := HL1.out; have := HL2.out; simp; omega) (by have := HL1.out; have := HL2.out; simp; omega) hsz ?_
    intro v2 w2 hw2 gw2
    have b3 : Below X.heap.size X.drew w2 := b1.grown gw2 b1.size (fun k e => (hw1.lt k e).1)
    refine hK _ _ ⟨(b3.cell hlb).trans E0, ?_⟩
    clear hK K
    try simp only [Act.put]
    refine wpAnyL_one (i := 13) (by kernel_rfl) ?_
    refine wpOp_K (fun K hK => ?_)
    refine wpOp_one rfl rfl ?_
    replace hsz := b3.size
    refine append_wp (w := w2) (cell := icell) _ _ 29 rfl X.heap.size 3 ii _ 8 Tryz.underlying29 Hii.out Hzi0.out Hzi1.out Hzi2.out rfl (by decide) v2 (0 + o1.length + [x].length) ([] ++ o1 ++ [x]) (by simp [Act.eval]) hw2 _ A2 (oc - k) o2 (by simp [Act.eval]) (HO2.out.below b3) (fun y j => by rcases j with _ | j <;> rfl) (by unfold maxLen; have := HL1.out; have := HL2.out; simp; omega) (by have := HL1.out; have := HL2.out; simp; omega) hsz ?_
    intro v3 w3 hw3 gw3
    have b4 : Below X.heap.size X.drew w3 := b3.grown gw3 b3.size (fun k e => (hw2.lt k e).1)
    refine hK _ _ ⟨(b4.cell hlb).trans E0, ?_⟩
    clear hK K
    try simp only [Act.put]
    refine wpAnyL_one (i := 14) (by kernel_rfl) ?_
    refine wpOp_K (fun K hK => ?_)
    refine wpOp_one rfl rfl ?_
    go_simp
    refine hK _ _ ⟨(b4.cell hlb).trans E0, ?_⟩
    clear hK K
    try simp only [Act.put]
    refine wpAnyL_done (by kernel_rfl) (NoPanic.normal ?_) _
    refine HQ.out _ _ _ _ _ _ _ _ _ _ _ _ _ _ _ v3 ?_ ((Below.refl _ X).drew.trans b4)
    have e : 0 + o1.length + [x].length + o2.length = m + 1 := by rw [HL1.out, HL2.out]; simp; omega
    rw [e] at hw3
    simpa using hw3
theorem own_capP {w : World} {base : Nat} {e : TypeId} {size n l c : Nat} {A : Option Addr} {xs : List Value} (h : w.ownsRow base e size (.slice A l c) n xs) : n ≤ c := by
  rcases h.2 with ⟨hv, h1, h2⟩ | ⟨g, cap, cur, hv, h1, h2, h3, h4, h5, h6⟩
  · injection hv with ha hb hc
    subst hc
    omega
  · injection hv with ha hb hc
    subst hc
    exact h3
theorem M.sIn_len (l : List Int) : (M.sIn l).length = l.length := by rw [M.sIn_eq, M.isort_len]
theorem M.getD0 {l : List Int} {k : Nat} (h : k < l.length) : l.getD k 0 = l[k] := by rw [List.getD_eq_getElem?_getD, List.getElem?_eq_getElem h]; rfl
set_option maxHeartbeats 16000000 in
theorem rSorted_ok (LA : Option Addr) (lc : Nat) (xs : List Int) (w : World) (hS : Sl 1 icell w w.heap.size LA xs) (hl : xs.length ≤ 1000000) :
    Calls Tryz.prog 22 #[.slice LA xs.length lc] w fun e w' => ∃ v, e = .returned v ∧ w'.ownsRow w.heap.size 3 1 v xs.length (flat 1 icell (M.isort xs)) ∧ Below w.heap.size w w' := by
  have HS := Lib.hid hS
  clear hS
  go_enter Tryz.func22, Tryz.ntmps22
  go_wp2_with fail
  go_loopw [3, 4, 5] (fun v i _ wr => ∃ k : Nat, k ≤ xs.length ∧ i = .int .i64 k ∧ Below w.heap.size w wr ∧ wr.ownsRow w.heap.size 3 1 v k (flat 1 icell (M.sIn (xs.take k)))) (fun _ i _ _ => xs.length - (intOf i).toNat)
  case atStart => exact ⟨0, Nat.zero_le _, rfl, Below.refl _ _, own_nil _ _ _ _ _⟩
  case round =>
    obtain ⟨k, hk, rfl, hB, hown⟩ := hrel
    by_cases hlt : k < xs.length
    · have y0 : (0 : Int) ≤ (k : Int) := by omega
      have y1 : (k : Int) < (xs.length : Int) := by omega
      have q0 : decide ((k : Int) < (xs.length : Int)) = true := decide_eq_true y1
      have hol : (M.sIn (xs.take k)).length = k := by rw [M.sIn_len, List.length_take]; omega
      have HNX : Hid (M.sIn (xs.take (k + 1)) = (M.sIn (xs.take k)).take (M.atN (M.sIn (xs.take k)) xs[k]) ++ [xs[k]] ++ (M.sIn (xs.take k)).drop (M.atN (M.sIn (xs.take k)) xs[k])) := Lib.hid (by rw [List.take_succ_eq_append_getElem hlt, M.sIn_snoc]; rfl)
      have hat := M.atN_le (M.sIn (xs.take k)) xs[k]
      have HLT : Hid (∀ j, j < M.atN (M.sIn (xs.take k)) xs[k] → (M.sIn (xs.take k)).getD j 0 < xs[k]) := Lib.hid (fun j h => M.atN_lt h)
      have HAT : Hid (M.atN (M.sIn (xs.take k)) xs[k] < (M.sIn (xs.take k)).length → ¬ (M.sIn (xs.take k)).getD (M.atN (M.sIn (xs.take k)) xs[k]) 0 < xs[k]) := Lib.hid (fun h => M.atN_at h)
      generalize M.sIn (xs.take k) = out at *
      generalize hx : xs[k] = x at *
      have HX := Lib.hid hx
      clear hx
      generalize M.atN out x = at0 at *
      rw [hol] at hat HAT
      obtain ⟨wA, wC, rfl, -⟩ := own_slice (by decide) hown
      have hcap := own_capP hown
      have hown2 : wr.ownsRow w.heap.size 3 1 (.slice wA out.length wC) out.length (flat 1 icell out) := by rw [hol] at hown ⊢; exact hown
      have HOL := Lib.hid hol
      rw [hol]
      clear hown hol
      go_wp2_with fail
      clear q0
      go_loopw [5] (fun a wq => ∃ j : Nat, j ≤ at0 ∧ a = .int .i64 j ∧ Below w.heap.size w wq ∧ wq.ownsRow w.heap.size 3 1 (.slice wA out.length wC) out.length (flat 1 icell out)) (fun a _ => at0 + 1 - (intOf a).toNat)
      case atStart => exact ⟨0, Nat.zero_le _, rfl, hB, hown2⟩
      case round =>
        clear hB hown2
        obtain ⟨j, hj, rfl, hB, hown⟩ := hrel
        obtain ⟨la, hla, hlb, a0⟩ := ((HS.out.below hB).more hB.size).int1 hlt
        rw [HX.out] at a0
        have hso := Sl.of_own (by decide) hown
        by_cases hjo : j < k
        · have hjl : j < out.length := by rw [HOL.out]; exact hjo
          obtain ⟨lb, hlb', hlb2, b0⟩ := hso.int1 hjl
          have z0 : (0 : Int) ≤ (j : Int) := by omega
          have z1 : (j : Int) < (k : Int) := by omega
          have q0 : decide ((j : Int) < (k : Int)) = true := decide_eq_true z1
          by_cases hja : j < at0
          · have hlx := HLT.out j hja
            rw [M.getD0 hjl] at hlx
            have q1 : decide (out[j] < x) = true := decide_eq_true hlx
            have HJA := Lib.hid hja
            clear hlx hso
            generalize out[j] = oj at *
            subst hla
            subst hlb'
            go_wp2_with fail
            refine wp_region_kept wr.heap.size wr (by kernel_rfl) (by kernel_rfl) (Below.refl _ _) ?_
            repeat (go_big_quiet_step (fail))
            refine wpQuiet_nil ?_
            rintro w5 ⟨⟨w5x, hb5⟩, hw5⟩
            dsimp only at hw5
            subst hw5
            replace hB := after_ hB hb5
            replace hown := own_below hown hb5
            clear a0 b0
            go_wp2_with fail
            go_roundw
            case rel => exact ⟨j + 1, HJA.out, by go_num, hB, hown⟩
            case measure => simp [intOf]; omega
          · obtain rfl : j = at0 := by omega
            have hlx := HAT.out hjo
            rw [M.getD0 hjl] at hlx
            have q1 : decide (out[j] < x) = false := decide_eq_false (by omega)
            clear hlx hso
            generalize out[j] = oj at *
            subst hla
            subst hlb'
            go_wp2_with fail
            refine wp_region_kept wr.heap.size wr (by kernel_rfl) (by kernel_rfl) (Below.refl _ _) ?_
            repeat (go_big_quiet_step (fail))
            refine wpQuiet_nil ?_
            rintro w5 ⟨⟨w5x, hb5⟩, hw5⟩
            dsimp only at hw5
            subst hw5
            replace hB := after_ hB hb5
            replace hown := own_below hown hb5
            clear a0 b0
            go_wp2_with fail
            obtain ⟨l3, h3, hb3, d0⟩ := ((HS.out.below hB).more hB.size).int1 hlt
            rw [HX.out] at d0
            refine sorted_reg8 (X := w5) (out := out) (Sl.of_own (by decide) hown) HOL.out hcap ⟨l3, h3, hb3, d0⟩ hlt hat (by omega) (by kernel_rfl) ?_
            intro z29 z30 z31 z32 z33 z34 z35 z36 z37 z38 z39 z40 z41 z42 v6 w6 hown6 hb6
            clear d0
            have hown7 := own_base hown6 hB.size
            rw [← HNX.out] at hown7
            have B6 := after_ hB hb6
            clear hown hown6 hB
            go_wp2_with fail
            go_roundw
            case rel => exact ⟨_, hlt, by go_num, B6, hown7⟩
            case measure => simp [intOf]; omega
        · have e1 : at0 = j := by omega
          obtain rfl : j = k := by omega
          subst e1
          have q0 : decide ((at0 : Int) < (at0 : Int)) = false := decide_eq_false (by omega)
          go_wp2_with fail
          refine wp_region_kept wr.heap.size wr (by kernel_rfl) (by kernel_rfl) (Below.refl _ _) ?_
          repeat (go_big_quiet_step (fail))
          refine wpQuiet_nil ?_
          rintro w5 ⟨⟨w5x, hb5⟩, hw5⟩
          dsimp only at hw5
          subst hw5
          replace hB := after_ hB hb5
          replace hown := own_below hown hb5
          clear a0
          go_wp2_with fail
          obtain ⟨l3, h3, hb3, d0⟩ := ((HS.out.below hB).more hB.size).int1 hlt
          rw [HX.out] at d0
          refine sorted_reg8 (X := w5) (out := out) (Sl.of_own (by decide) hown) HOL.out hcap ⟨l3, h3, hb3, d0⟩ hlt hat (by omega) (by kernel_rfl) ?_
          intro z29 z30 z31 z32 z33 z34 z35 z36 z37 z38 z39 z40 z41 z42 v6 w6 hown6 hb6
          clear d0
          have hown7 := own_base hown6 hB.size
          rw [← HNX.out] at hown7
          have B6 := after_ hB hb6
          clear hown hown6 hB
          go_wp2_with fail
          go_roundw
          case rel => exact ⟨_, hlt, by go_num, B6, hown7⟩
          case measure => simp [intOf]; omega
    · obtain rfl : k = xs.length := by omega
      have q0 : decide ((xs.length : Int) < (xs.length : Int)) = false := decide_eq_false (by omega)
      rw [List.take_length, M.sIn_eq] at hown
      go_wp2_with fail
      go_ret
      exact ⟨_, rfl, hown, hB⟩
end Go.Proofs.YtpkepgcmifdpfaaGreatDoor
end

section
namespace Go.Proofs.YtpkepgcmifdpfaaGreatDoor
open Go Go.RowKit
set_option maxRecDepth 100000
theorem rWaits_tr (a : TrA) (t : Tr) (w : World) (hm : TrM w a t) (hp : t.ps.length ≤ 20000) (hi : M.Ints t.ps t.l) {x y : Mv} (hx : x ∈ t.l) (hy : y ∈ t.l) :
    Calls Tryz.prog 66 #[.slice a.P t.ps.length a.p, mvv x, mvv y] w fun e w' => e = .returned (.bool (M.waits t.ps x y)) ∧ Below w.heap.size w w' := by
  have h3 := rWaits_ok a.P a.p t.ps x y w hm.P (by omega)
  rw [M.rwaits_eq (hi.l _ hx).2.2 (hi.l _ hy).2.1 (fun p hp => (hi.p p hp).2.2)] at h3
  exact h3
set_option maxHeartbeats 32000000 in
theorem rWaits48_ok (a : TrA) (t : Tr) (SA UA : Option Addr) (sc uc : Nat) (ss us : List Int) (w : World) (hm : TrM w a t) (hg : M.trGood t) (hi : M.Ints t.ps t.l) (hS : Sl 1 icell w w.heap.size SA ss) (hs : ss.length ≤ 1000000) (hU : Sl 1 icell w w.heap.size UA us) (hu : us.length ≤ 1000000) :
    Calls Tryz.prog 50 #[trV a t, .slice SA ss.length sc, .slice UA us.length uc] w fun e w' => e = .returned (.bool (M.gwt t ss us)) ∧ Below w.heap.size w w' := by
  obtain ⟨X, HX, x0, hB, -⟩ := boxes1 w (trc a t) 28
  have hX := HX.out
  have Bd : Below w.heap.size w X.drew := hB.drew
  have y0 : Box X.drew w.heap.size (trc a t) 28 := x0
  have td := hm.next Bd
  have sd := (hS.below Bd).more Bd.size
  have ud := (hU.below Bd).more Bd.size
  have HI := Lib.hid hi
  have hps := hg.2.1
  have K0 := y0.c6
  have K1 := x0.c6
  have kA : ∀ wa, Below X.drew.heap.size X.drew wa → _ := fun wa hba => (y0.below hba).c6
  have hl512 := hg.1.1.1
  obtain ⟨r, hr⟩ : ∃ r, M.gwt t ss us = r := ⟨_, rfl⟩
  rw [hr]
  have HR : Hid (((∃ i, ∃ k, ∃ hi : i < (M.pick t.l ss).length, ∃ hk : k < (M.pick t.l us).length, M.waits t.ps (M.pick t.l ss)[i] (M.pick t.l us)[k] = true) → r = true) ∧ ((∀ i k (hi : i < (M.pick t.l ss).length) (hk : k < (M.pick t.l us).length), M.waits t.ps (M.pick t.l ss)[i] (M.pick t.l us)[k] = false) → r = false)) := Lib.hid (by
    rw [← hr]
    unfold M.gwt
    constructor
    · rintro ⟨i, k, h1, h2, h3⟩
      exact List.any_eq_true.2 ⟨_, List.getElem_mem h1, List.any_eq_true.2 ⟨_, List.getElem_mem h2, h3⟩⟩
    · intro h
      apply Bool.eq_false_iff.2
      intro h1
      obtain ⟨x, hx, h2⟩ := List.any_eq_true.1 h1
      obtain ⟨y, hy, h3⟩ := List.any_eq_true.1 h2
      obtain ⟨i, hi, rfl⟩ := List.getElem_of_mem hx
      obtain ⟨k, hk, rfl⟩ := List.getElem_of_mem hy
      rw [h i k hi hk] at h3
      cases h3)
  have HXL : Hid ((∀ x ∈ M.pick t.l ss, x ∈ t.l) ∧ (∀ x ∈ M.pick t.l us, x ∈ t.l)) := Lib.hid ⟨fun x hx => (M.pick_sub t.l ss).subset hx, fun x hx => (M.pick_sub t.l us).subset hx⟩
  have hxl := M.pick_len hg ss
  have hyl := M.pick_len hg us
  clear hr hg hm hS hU hi
  go_enter Tryz.func50, Tryz.ntmps50
  go_wp2_with fail
  go_region_held3 (fun w' => w'.cell? ⟨w.heap.size, 0, none⟩ = some (.slice a.P t.ps.length a.p) ∧ w'.cell? ⟨w.heap.size, 1, none⟩ = some (.slice a.L t.l.length a.l) ∧ w'.cell? ⟨w.heap.size, 2, none⟩ = some (.slice a.T t.T.length a.t) ∧ w'.cell? ⟨w.heap.size, 3, none⟩ = some (.slice a.C t.C.length a.c) ∧ w'.cell? ⟨w.heap.size, 4, none⟩ = some (.int .i64 t.lm) ∧ w'.cell? ⟨w.heap.size, 5, none⟩ = some (.int .i64 t.lw)) (first | with_reducible exact K0 | with_reducible exact K1 | with_reducible exact kA _ (by assumption))
    (first
      | (go_at_call 38; ((with_reducible refine (rOf_sl a t SA sc ss _ td hl512 sd hs).mono ?_); rintro e wa ⟨A2, c2, rfl, hS2, hba⟩; have ta := td.next hba))
      | (go_at_call 38; ((with_reducible refine (rOf_sl a t UA uc us _ ta hl512 ((ud.below hba).more hba.size) hu).mono ?_); rintro e wb ⟨A3, c3, rfl, hS3, hbb⟩; have hbB := after_ hba hbb)))
  all_goals
    have xb := y0.below hbB
    have tb := ta.next hbb
    have hS2b := (hS2.below hbb).more hbb.size
    have Bb := after_ Bd hbB
    have HTB := Lib.hid tb
    have H2 := Lib.hid hS2b
    have H3 := Lib.hid hS3
    clear K0 K1 kA hX x0 y0 td sd ud ta hS2 hba hbb hbB hS2b hS3 Bd tb
    generalize M.pick t.l ss = xs at *
    generalize M.pick t.l us = ys at *
    go_wp2_with fail
    go_loopw [9, 10] (fun i _ wr => ∃ k : Nat, k ≤ xs.length ∧ i = .int .i64 k ∧ Below wb.heap.size wb wr ∧ Hid (∀ j q (hj : j < xs.length) (hq : q < ys.length), j < k → M.waits t.ps xs[j] ys[q] = false)) (fun i _ _ => xs.length - (intOf i).toNat)
    case atStart => exact ⟨0, Nat.zero_le _, rfl, Below.refl _ _, Lib.hid (fun j q _ _ h => absurd h (by omega))⟩
    case round =>
      obtain ⟨k, hk, rfl, hB, HN⟩ := hrel
      by_cases hlt : k < xs.length
      · have y0 : (0 : Int) ≤ (k : Int) := by omega
        have y1 : (k : Int) < (xs.length : Int) := by omega
        have q0 : decide ((k : Int) < (xs.length : Int)) = true := decide_eq_true y1
        go_wp2_with fail
        clear q0
        go_loopw [10] (fun i wr => ∃ q : Nat, q ≤ ys.length ∧ i = .int .i64 q ∧ Below wb.heap.size wb wr ∧ Hid (∀ q' (hq : q' < ys.length), q' < q → M.waits t.ps xs[k] ys[q'] = false)) (fun i _ => ys.length - (intOf i).toNat)
        case atStart => exact ⟨0, Nat.zero_le _, rfl, hB, Lib.hid (fun q _ h => absurd h (by omega))⟩
        case round =>
          clear hB
          obtain ⟨q, hq, rfl, hB, HN2⟩ := hrel
          by_cases hlq : q < ys.length
          · have z0 : (0 : Int) ≤ (q : Int) := by omega
            have z1 : (q : Int) < (ys.length : Int) := by omega
            have q0 : decide ((q : Int) < (ys.length : Int)) = true := decide_eq_true z1
            obtain ⟨la, hla, hlb, a0, a1, a2, a3, a4, a5⟩ := ((H2.out.below hB).more hB.size).mv6 hlt
            obtain ⟨lb, hlb1, hlb2, b0, b1, b2, b3, b4, b5⟩ := ((H3.out.below hB).more hB.size).mv6 hlq
            have xw := xb.below hB
            have c0 := xw.cell 0 rfl
            have hbw := xw.lt
            obtain ⟨r1, hr1⟩ : ∃ r1, M.waits t.ps xs[k] ys[q] = r1 := ⟨_, rfl⟩
            have HR1 := Lib.hid hr1
            have KW : Hid (∀ u : Kept wr.heap.size wr, Calls Tryz.prog 66 #[.slice a.P t.ps.length a.p, mvv xs[k], mvv ys[q]] u.val fun e w' => e = .returned (.bool r1) ∧ Below u.val.heap.size u.val w') := Lib.hid (fun u => by
              have := rWaits_tr a t u.val ((HTB.out.next hB).next u.h) hps HI.out (HXL.out.1 _ (List.getElem_mem hlt)) (HXL.out.2 _ (List.getElem_mem hlq))
              rw [hr1] at this
              exact this)
            clear hr1
            subst hla
            subst hlb1
            generalize hxk : xs[k] = xk at *
            generalize hyq : ys[q] = yq at *
            have HXK := Lib.hid hxk
            have HYQ := Lib.hid hyq
            clear hxk hyq
            go_wp2_with fail
            refine wp_region_kept wr.heap.size wr (by kernel_rfl) (by kernel_rfl) (Below.refl _ _) ?_
            repeat (go_big_quiet_step ((go_at_call 66; with_reducible exact Kept.calls (Nat.le_refl _) (KW.out _))))
            refine wpQuiet_nil ?_
            rintro w5 ⟨⟨w5x, hb5⟩, hw5⟩
            dsimp only at hw5
            subst hw5
            clear a0 a1 a2 a3 a4 a5 b0 b1 b2 b3 b4 b5 c0
            have B5 := after_ hB hb5
            cases r1 with
            | true =>
              have HE : Hid (r = true) := Lib.hid (HR.out.1 ⟨k, q, hlt, hlq, by rw [HXK.out, HYQ.out]; exact HR1.out⟩)
              go_wp2_with fail
              go_ret
              exact ⟨by rw [HE.out]; rfl, after_ Bb B5⟩
            | false =>
              have HN3 : Hid (∀ q' (hq : q' < ys.length), q' < q + 1 → M.waits t.ps xk ys[q'] = false) := Lib.hid (fun q' hq' h => by
                by_cases e : q' = q
                · subst e; rw [HYQ.out]; exact HR1.out
                · exact HN2.out q' hq' (by omega))
              clear HN2 HR1
              go_wp2_with fail
              go_roundw
              case rel => exact ⟨q + 1, hlq, by go_num, B5, HXK.out ▸ HN3⟩
              case measure => simp [intOf]; omega
          · obtain rfl : q = ys.length := by omega
            have q0 : decide ((ys.length : Int) < (ys.length : Int)) = false := decide_eq_false (by omega)
            have HN3 : Hid (∀ j q (hj : j < xs.length) (hq : q < ys.length), j < k + 1 → M.waits t.ps xs[j] ys[q] = false) := Lib.hid (fun j q hj hq h => by
              by_cases e : j = k
              · subst e; exact HN2.out q hq hq
              · exact HN.out j q hj hq (by omega))
            clear HN HN2
            go_wp2_with fail
            go_roundw
            case rel => exact ⟨k + 1, hlt, by go_num, hB, HN3⟩
            case measure => simp [intOf]; omega
      · obtain rfl : k = xs.length := by omega
        have q0 : decide ((xs.length : Int) < (xs.length : Int)) = false := decide_eq_false (by omega)
        have HE : Hid (r = false) := Lib.hid (HR.out.2 (fun i k hi hk => HN.out i k hi hk hi))
        go_wp2_with fail
        go_ret
        exact ⟨by rw [HE.out]; rfl, after_ Bb hB⟩
end Go.Proofs.YtpkepgcmifdpfaaGreatDoor
end

section
namespace Go.Proofs.YtpkepgcmifdpfaaGreatDoor
open Go Go.RowKit Go.Maps
set_option maxRecDepth 100000
structure LI (W : World) (base : Nat) (v : Value) (ls : List SLc) : Prop where
  outer : W.ownsRow base 29 1 v ls.length (flat 1 slcell ls)
  inner : ∀ s ∈ ls, W.ownsRow 0 3 1 (.slice s.A s.xs.length s.c) s.xs.length (flat 1 icell s.xs)
section
variable {W W' : World} {base : Nat} {v : Value} {ls : List SLc}
theorem LI.none_ (W : World) (base : Nat) : LI W base (.slice none 0 0) [] := ⟨own_nil _ _ _ _ _, fun s h => absurd h (by simp)⟩
theorem LI.below (h : LI W base v ls) (hb : Below W.heap.size W W') : LI W' base v ls := ⟨own_below h.outer hb, fun s hs => own_below (h.inner s hs) hb⟩
theorem LI.push (h : LI W base v ls) {v' : Value} {s : SLc} (hi : W.ownsRow 0 3 1 (.slice s.A s.xs.length s.c) s.xs.length (flat 1 icell s.xs)) (ho : W'.ownsRow base 29 1 v' (ls.length + 1) (flat 1 slcell (ls ++ [s]))) (hg : W.grownBy W' v.ownBlock) : LI W' base v' (ls ++ [s]) := by
  refine ⟨by rw [List.length_append]; exact ho, fun t ht => ?_⟩
  have hk : ∀ t : SLc, W.ownsRow 0 3 1 (.slice t.A t.xs.length t.c) t.xs.length (flat 1 icell t.xs) → W'.ownsRow 0 3 1 (.slice t.A t.xs.length t.c) t.xs.length (flat 1 icell t.xs) := fun t h1 => h1.kept hg (own_ne h1 h.outer (by decide))
  rcases List.mem_append.1 ht with ht | ht
  · exact hk t (h.inner t ht)
  · obtain rfl := List.mem_singleton.1 ht
    exact hk t hi
theorem LI.put {g n cap : Nat} (h : LI W base (.slice (some ⟨g, 0, none⟩) n cap) ls) {k : Nat} (hk : k < ls.length) {s : SLc} (hin : W.ownsRow 0 3 1 (.slice s.A s.xs.length s.c) s.xs.length (flat 1 icell s.xs)) :
    LI (W.setCell ⟨g, k, none⟩ (.slice s.A s.xs.length s.c)) base (.slice (some ⟨g, 0, none⟩) n cap) (ls.set k s) := by
  have hln : ls.length = n := by
    rcases h.outer.2 with ⟨e, _⟩ | ⟨g2, c2, cur, e, _⟩
    · cases e
    · injection e with e1 e2 e3
      exact e2.symm
  subst hln
  have hrow : ∀ {ba : Nat} {v : Value} {n : Nat} {xs : List Value}, W.ownsRow ba 3 1 v n xs → (W.setCell ⟨g, k, none⟩ (.slice s.A s.xs.length s.c)).ownsRow ba 3 1 v n xs := fun ho => ho.kept (grown_set W g k _) (own_ne ho h.outer (by decide))
  refine ⟨?_, fun t ht => ?_⟩
  · have h3 := own_set h.outer hk (j := 0) (y := s) (u := .slice s.A s.xs.length s.c) (by decide) rfl (fun j' h3 h4 => absurd h3 (by omega))
    rw [Nat.mul_one, Nat.add_zero] at h3
    rw [List.length_set]
    exact h3
  · rcases List.mem_or_eq_of_mem_set ht with h1 | rfl
    · exact hrow (h.inner t h1)
    · exact hrow hin
theorem LI.one_at (h : LI W base v ls) (hk : 0 < ls.length) : ∃ g cap, v = .slice (some ⟨g, 0, none⟩) ls.length cap ∧ base ≤ g := by
  rcases h.outer.2 with ⟨e, h0⟩ | ⟨g, cap, cur, e, hb, -⟩
  · omega
  · exact ⟨g, cap, e, hb⟩
end
structure GP (w1 W : World) (v : Value) (ls : List SLc) : Prop where
  bel : Below w1.heap.size w1 W
  li : LI W w1.heap.size v ls
theorem GP.next {w1 W W' : World} {v : Value} {ls : List SLc} (h : GP w1 W v ls) (hb : Below W.heap.size W W') : GP w1 W' v ls := ⟨after_ h.bel hb, h.li.below hb⟩
set_option maxHeartbeats 32000000 in
theorem grd_reg24 {Q : Exit → Act → World → Prop} {cd : Code} {dl : List Deferred} {Z0 Z1 Z2 Z3 Z4 Z6 Z7 Za Zb Zc Ze Zf Zg Zh Zi Zj Zk Zl Zm Zn Zo Zp Zq Zr Zs Zt Zu Zv Zw Zx Zy Zz Z10 Z11 Z12 Z13 Z14 Z15 Z16 Z17 Z18 Z19 Z1a Z1b Z1c Z1d Z1e Z1f Z1g Z1h Z1i Z1j Z1k Z1l Z1m Z1n Z1o Z1p Z1q Z1r Z1s Z1t Z1u Z1v Z1w Z1x Z1y Z1z Z20 Z21 Z22 Z23 Z24 Z25 Z26 Z27 Z28 Z29 Z2a Z2b Z2c Z2d Z2e Z2f Z2g Z2h Z2i Z2j Z2k Z2l Z2m Z2n Z2o Z2p Z2q Z2r Z2s Z2t Z2u : Value} {pa ga : Addr} {pn pc gn gc i k sc uc : Nat} {sA uA : Option Addr} {xs ys : List Int} {X : World} (hk : k < pn) (hi : i < gn) (hlp : (pa.add k).block < X.heap.size) (hlg : (ga.add i).block < X.heap.size) (p0 : X.cell? (pa.add k) = some (.slice sA xs.length sc)) (g0 : X.cell? (ga.add i) = some (.slice uA ys.length uc)) (hX : Sl 1 icell X X.heap.size sA xs) (hY : Sl 1 icell X X.heap.size uA ys) (hxl : xs.length ≤ 1000000) (hyl : ys.length ≤ 1000000) (hcd : (Tryz.f25.body.bind (regionOf 24)) = some cd)
    (hQ : ∀ (y75 y76 y77 y78 y79 y80 y81 y82 y83 y84 : Value) (wo : World) (v : Value), wo.ownsRow X.heap.size 3 1 v (xs.length + ys.length) (flat 1 icell (xs ++ ys)) → Below X.heap.size X wo → Q .normal ⟨#[Z0,Z1,Z2,Z3,Z4,.slice (some ga) gn gc,Z6,Z7,.slice (some pa) pn pc,.int .i64 (i : Nat),Za,Zb,Zc,.int .i64 (k : Nat),v,Zf,Zg,Zh,Zi,Zj,Zk,Zl,Zm,Zn,Zo,Zp,Zq,Zr,Zs,Zt,Zu,Zv,Zw,Zx,Zy,Zz,Z10,Z11,Z12,Z13,Z14,Z15,Z16,Z17,Z18,Z19,Z1a,Z1b,Z1c,Z1d,Z1e,Z1f,Z1g,Z1h,Z1i,Z1j,Z1k,Z1l,Z1m,Z1n,Z1o,Z1p,Z1q,Z1r,Z1s,Z1t,Z1u,Z1v,Z1w,Z1x,Z1y,Z1z,Z20,Z21,Z22,y75,y76,y77,y78,y79,y80,y81,y82,y83,y84,Z2d,Z2e,Z2f,Z2g,Z2h,Z2i,Z2j,Z2k,Z2l,Z2m,Z2n,Z2o,Z2p,Z2q,Z2r,Z2s,Z2t,Z2u], dl⟩ wo) :
    cd.wp Tryz.prog Q ⟨#[Z0,Z1,Z2,Z3,Z4,.slice (some ga) gn gc,Z6,Z7,.slice (some pa) pn pc,.int .i64 (i : Nat),Za,Zb,Zc,.int .i64 (k : Nat),Ze,Zf,Zg,Zh,Zi,Zj,Zk,Zl,Zm,Zn,Zo,Zp,Zq,Zr,Zs,Zt,Zu,Zv,Zw,Zx,Zy,Zz,Z10,Z11,Z12,Z13,Z14,Z15,Z16,Z17,Z18,Z19,Z1a,Z1b,Z1c,Z1d,Z1e,Z1f,Z1g,Z1h,Z1i,Z1j,Z1k,Z1l,Z1m,Z1n,Z1o,Z1p,Z1q,Z1r,Z1s,Z1t,Z1u,Z1v,Z1w,Z1x,Z1y,Z1z,Z20,Z21,Z22,Z23,Z24,Z25,Z26,Z27,Z28,Z29,Z2a,Z2b,Z2c,Z2d,Z2e,Z2f,Z2g,Z2h,Z2i,Z2j,Z2k,Z2l,Z2m,Z2n,Z2o,Z2p,Z2q,Z2r,Z2s,Z2t,Z2u], dl⟩ X := by
  rw [show (Tryz.f25.body.bind (regionOf 24)) = some (Code.region 24 _ true) from rfl] at hcd
  obtain rfl := Option.some.inj hcd
  clear hcd
  dsimp only at hQ ⊢
  obtain ⟨ii, hii, hzi0, hzi1, hzi2⟩ := info_parts intInfoP
  have Hii := Lib.hid hii; have Hzi0 := Lib.hid hzi0; have Hzi1 := Lib.hid hzi1; have Hzi2 := Lib.hid hzi2
  clear hii hzi0 hzi1 hzi2
  have HQ := Lib.hid hQ
  clear hQ
  have x0 : (0 : Int) ≤ (k : Int) := by omega
  have x1 : (k : Int) < (pn : Int) := by omega
  have x2 : (0 : Int) ≤ (i : Int) := by omega
  have x3 : (i : Int) < (gn : Int) := by omega
  have E0 : X.drew.cell? (pa.add k) = some (.slice sA xs.length sc) := p0
  have E1 : X.drew.cell? (ga.add i) = some (.slice uA ys.length uc) := g0
  have b0 : Below X.heap.size X.drew X.drew := (Below.refl X.heap.size X.drew)
  have n0 : X.drew.ownsRow X.heap.size 3 1 (.slice none 0 0) 0 (flat 1 icell []) := own_nil _ _ _ _ _
  have HX : Hid (Sl 1 icell X.drew X.heap.size sA xs) := Lib.hid hX
  have HY : Hid (Sl 1 icell X.drew X.heap.size uA ys) := Lib.hid hY
  clear hX hY p0 g0
  refine wp_region_noPanic ?_
  refine wp_region_any (by kernel_rfl) ?_
  refine wpAny_of_L (S := (fun (_ : Array Bool) (w' : World) => w'.cell? (pa.add k) = some (.slice sA xs.length sc) ∧ w'.cell? (ga.add i) = some (.slice uA ys.length uc))) _ _ _ _ ?_
  change wpAnyL Tryz.prog _ _ _ _ _ _ _ X.drew
  refine wpAnyL_take (i := 0) (q := 2) (v := .slice (some pa) pn pc) (fun w' => True) rfl (by kernel_rfl) (by kernel_rfl) (by kernel_rfl) (fun c a w h => h) rfl (by kernel_rfl) (by decide) (fun ls w => by simp) (fun ls w h1 h2 => trivial) rfl rfl (fun w h => by go_simp) ⟨E0, E1⟩ ?_
  try simp only [Act.put]
  refine wpAnyL_take (i := 1) (q := 2) (v := .int .i64 (k : Nat)) (fun w' => True) rfl (by kernel_rfl) (by kernel_rfl) (by kernel_rfl) (fun c a w h => h) rfl (by kernel_rfl) (by decide) (fun ls w => by simp) (fun ls w h1 h2 => trivial) rfl rfl (fun w h => by go_simp) ⟨E0, E1⟩ ?_
  try simp only [Act.put]
  refine wpAnyL_take (i := 2) (q := 3) (v := .pointer (some (pa.add k))) (fun w' => True) rfl (by kernel_rfl) (by kernel_rfl) (by kernel_rfl) (fun c a w h => h) rfl (by kernel_rfl) (by decide) (fun ls w => by simp) (fun ls w h1 h2 => trivial) rfl rfl (fun w h => by go_simp) ⟨E0, E1⟩ ?_
  try simp only [Act.put]
  refine wpAnyL_take (i := 3) (q := 4) (v := .slice sA xs.length sc) (fun w' => w'.cell? (pa.add k) = some (.slice sA xs.length sc)) rfl (by kernel_rfl) (by kernel_rfl) (by kernel_rfl) (fun c a w h => h) rfl (by kernel_rfl) (by decide) (fun ls w => by simp) (fun ls w h1 h2 => h2.1) rfl rfl (fun w h => by go_simp) ⟨E0, E1⟩ ?_
  try simp only [Act.put]
  refine wpAnyL_take (i := 5) (q := 7) (v := .slice (some ga) gn gc) (fun w' => True) rfl (by kernel_rfl) (by kernel_rfl) (by kernel_rfl) (fun c a w h => h) rfl (by kernel_rfl) (by decide) (fun ls w => by simp) (fun ls w h1 h2 => trivial) rfl rfl (fun w h => by go_simp) ⟨E0, E1⟩ ?_
  try simp only [Act.put]
  refine wpAnyL_take (i := 6) (q := 7) (v := .int .i64 (i : Nat)) (fun w' => True) rfl (by kernel_rfl) (by kernel_rfl) (by kernel_rfl) (fun c a w h => h) rfl (by kernel_rfl) (by decide) (fun ls w => by simp) (fun ls w h1 h2 => trivial) rfl rfl (fun w h => by go_simp) ⟨E0, E1⟩ ?_
  try simp only [Act.put]
  refine wpAnyL_take (i := 7) (q := 8) (v := .pointer (some (ga.add i))) (fun w' => True) rfl (by kernel_rfl) (by kernel_rfl) (by kernel_rfl) (fun c a w h => h) rfl (by kernel_rfl) (by decide) (fun ls w => by simp) (fun ls w h1 h2 => trivial) rfl rfl (fun w h => by go_simp) ⟨E0, E1⟩ ?_
  try simp only [Act.put]
  refine wpAnyL_take (i := 8) (q := 9) (v := .slice uA ys.length uc) (fun w' => w'.cell? (ga.add i) = some (.slice uA ys.length uc)) rfl (by kernel_rfl) (by kernel_rfl) (by kernel_rfl) (fun c a w h => h) rfl (by kernel_rfl) (by decide) (fun ls w => by simp) (fun ls w h1 h2 => h2.2) rfl rfl (fun w h => by go_simp) ⟨E0, E1⟩ ?_
  try simp only [Act.put]
  refine wpAnyL_one (i := 4) (by kernel_rfl) ?_
  refine wpOp_K (fun K hK => ?_)
  refine wpOp_one rfl rfl ?_
  have hsz := b0.size
  refine append_wp (w := X.drew) (cell := icell) _ _ 29 rfl X.heap.size 3 ii _ 8 Tryz.underlying29 Hii.out Hzi0.out Hzi1.out Hzi2.out rfl (by decide) (.slice none 0 0) 0 [] (by simp [Act.eval]) n0 _ sA sc xs (by simp [Act.eval]) HX.out (fun y j => by rcases j with _ | j <;> rfl) (by unfold maxLen; omega) (by omega) hsz ?_
  intro v1 w1 hw1 gw1
  have b1 : Below X.heap.size X.drew w1 := b0.grown gw1 b0.size (fun k e => (n0.lt k e).1)
  refine hK _ _ ⟨⟨(b1.cell hlp).trans E0, (b1.cell hlg).trans E1⟩, ?_⟩
  clear hK K
  try simp only [Act.put]
  refine wpAnyL_one (i := 9) (by kernel_rfl) ?_
  refine wpOp_K (fun K hK => ?_)
  refine wpOp_one rfl rfl ?_
  replace hsz := b1.size
  refine append_wp (w := w1) (cell := icell) _ _ 29 rfl X.heap.size 3 ii _ 8 Tryz.underlying29 Hii.out Hzi0.out Hzi1.out Hzi2.out rfl (by decide) v1 (0 + xs.length) ([] ++ xs) (by simp [Act.eval]) hw1 _ uA uc ys (by simp [Act.eval]) (HY.out.below b1) (fun y j => by rcases j with _ | j <;> rfl) (by unfold maxLen; omega) (by omega) hsz ?_
  intro v2 w2 hw2 gw2
  have b2 : Below X.heap.size X.drew w2 := b1.grown gw2 b1.size (fun k e => (hw1.lt k e).1)
  refine hK _ _ ⟨⟨(b2.cell hlp).trans E0, (b2.cell hlg).trans E1⟩, ?_⟩
  clear hK K
  try simp only [Act.put]
  refine wpAnyL_one (i := 10) (by kernel_rfl) ?_
  refine wpOp_K (fun K hK => ?_)
  refine wpOp_one rfl rfl ?_
  go_simp
  refine hK _ _ ⟨⟨(b2.cell hlp).trans E0, (b2.cell hlg).trans E1⟩, ?_⟩
  clear hK K
  try simp only [Act.put]
  refine wpAnyL_done (by kernel_rfl) (NoPanic.normal ?_) _
  refine HQ.out _ _ _ _ _ _ _ _ _ _ _ v2 ?_ ((Below.refl _ X).drew.trans b2)
  simpa using hw2
theorem own_lt2 {w : World} {base : Nat} {e : TypeId} {size g n l c : Nat} {xs : List Value} (h : w.ownsRow base e size (.slice (some ⟨g, 0, none⟩) l c) n xs) : base ≤ g ∧ g < w.heap.size := h.lt g rfl
theorem M.trIs_some (t : Tr) : ∃ er, M.trIs t er := by
  by_cases h1 : M.trOk t
  · by_cases h2 : t.ps.length ≤ 20000
    · by_cases h3 : M.twAll t.l t.T t.C
      · exact ⟨0, .inl ⟨h1, h2, h3, rfl⟩⟩
      · exact ⟨9, .inr (.inl ⟨h1, h2, h3, rfl⟩)⟩
    · exact ⟨7, .inr (.inr (.inl ⟨h1, by omega, rfl⟩))⟩
  · exact ⟨2, .inr (.inr (.inr ⟨h1, rfl⟩))⟩
set_option maxHeartbeats 64000000 in
theorem rGreedy_ok (a : TrA) (t : Tr) (w : World) (hm : TrM w a t) (hi : M.Ints t.ps t.l) :
    Calls Tryz.prog 25 #[trV a t] w fun e w' => (∃ er, M.gyIs t er ∧ ((er ≠ 0 ∧ e = .returned (.tuple #[.slice none 0 0, .int .i64 er])) ∨ (er = 0 ∧ ∃ A c ls, e = .returned (.tuple #[.slice A ls.length c, .int .i64 0]) ∧ LL w' A ls ∧ ls.map (·.xs) = M.gyP t))) ∧ Below w.heap.size w w' := by
  obtain ⟨il, hil, hzl0, hzl1, hzl2⟩ := info_parts slInfo
  have Hil := Lib.hid hil; have Hzl0 := Lib.hid hzl0; have Hzl1 := Lib.hid hzl1; have Hzl2 := Lib.hid hzl2
  clear hil hzl0 hzl1 hzl2
  obtain ⟨X, HX, x0, hB, -⟩ := boxes1 w (trc a t) 28
  have hX := HX.out
  have tx := hm.next hB
  obtain ⟨er, her⟩ : ∃ er, M.trIs t er := M.trIs_some t
  have kE := rError48_ok a t X tx er her
  have HER := Lib.hid her
  have HTR := Lib.hid hm
  have HI := Lib.hid hi
  have hll := hm.hL
  clear her hm hi
  obtain ⟨c0, c1, c2, c3, c4, c5⟩ := x0.c6
  go_enter Tryz.func25, Tryz.ntmps25
  go_wp2_with fail
  clear hX c0 c1 c2 c3 c4 c5
  refine kE.mono ?_
  rintro e w0 ⟨rfl, hb0⟩
  clear kE
  have B0 := after_ hB hb0
  by_cases hne : er = 0
  case neg =>
    have q0 : (er == 0) = false := by simpa using hne
    have q1 : (er != 0) = true := by simpa using hne
    have HE0 := Lib.hid hne
    clear hne
    go_wp2_with fail
    go_ret2
    exact ⟨⟨er, .inl ⟨HE0.out, HER.out⟩, .inl ⟨HE0.out, rfl⟩⟩, B0⟩
  subst hne
  have HG : Hid (M.trGood t) := Lib.hid (M.trIs_zero HER.out)
  have x00 := x0.below hb0
  clear x0 hB hb0 tx
  have t0 := HTR.out.next B0
  have kG := rGroups_ok a.P a.p t.ps.length t.ps a.L a.l t.l w0 rfl t0.P t0.L hll HI.out
  obtain ⟨c0, c1, c2, c3, c4, c5⟩ := x00.c6
  go_wp2_with fail
  refine kG.mono ?_
  rintro e w1 ⟨⟨er, her, hc⟩, hb1⟩
  have h0 : er = 0 := by
    rcases her with ⟨-, -, h1⟩ | ⟨-, h1, -⟩ | ⟨h1, -⟩
    · exact h1
    · have := HG.out.2.1; omega
    · exact absurd HG.out.1.1 h1
  rcases hc with ⟨h1, -⟩ | ⟨-, GA, gc, gs, rfl, hlo, hgx⟩
  · exact absurd h0 h1
  clear her h0 kG c0 c1 c2 c3 c4 c5
  have B1 := after_ B0 hb1
  have x1 := x00.below hb1
  obtain ⟨n, hn⟩ : ∃ n, gs.length = n := ⟨_, rfl⟩
  have hGn : (M.tgr t).length = n := by rw [show M.tgr t = gs.map (·.xs) from hgx.symm, List.length_map, hn]
  have hnb : n ≤ 512 := by rw [← hGn]; exact Nat.le_trans (M.grps_len_le HG.out.1.1) HG.out.1.1.1
  have HF : Hid (∀ W, Below w1.heap.size w1 W → TrM W a t ∧ Box W w.heap.size (trc a t) 28 ∧ LO W w0.heap.size (.slice GA gs.length gc) gs ∧ Below w.heap.size w W) := Lib.hid (fun W hW => ⟨HTR.out.next (after_ B1 hW), x1.below hW, hlo.below hW, after_ B1 hW⟩)
  have HGD : Hid (∀ i (hi : i < gs.length), gs[i].xs = (M.tgr t).getD i [] ∧ gs[i].xs.length ≤ 512 ∧ gs[i].xs ∈ M.tgr t) := Lib.hid (fun i hi => by
    have hiG : i < (M.tgr t).length := by rw [hGn, ← hn]; exact hi
    have e : gs[i].xs = (M.tgr t).getD i [] := by
      rw [show M.tgr t = gs.map (·.xs) from hgx.symm, List.getD_eq_getElem?_getD, List.getElem?_map, List.getElem?_eq_getElem hi]
      rfl
    have hm : gs[i].xs ∈ M.tgr t := by rw [e, List.getD_eq_getElem?_getD, List.getElem?_eq_getElem hiG]; exact List.getElem_mem hiG
    exact ⟨e, (M.grps_small HG.out.1.1 hm).1, hm⟩)
  have HN := Lib.hid hn
  have HGN := Lib.hid hGn
  have HGX := Lib.hid hgx
  rw [hn]
  clear hlo hgx hn hGn x1 x00 t0 hb1 B0
  go_wp2_with fail
  refine wp_loop_mrg [7, 28, 29, 30, 31, 32, 33, 34, 35, 36, 37, 38, 39, 40] (fun mm f ds W1 => ds = [] ∧ ∃ k : Nat, f 7 = .int .i64 k ∧ mm = n - k ∧ k ≤ n ∧ Below w1.heap.size w1 W1 ∧ Hid (∀ j (hj : j < gs.length), j < k → M.small t gs[j].xs = true)) n ⟨rfl, 0, rfl, rfl, Nat.zero_le _, Below.refl _ _, Lib.hid (fun j _ h => absurd h (by omega))⟩ ?_
  intro c1' T1' hc2 hT2
  rintro mm f ds W1 ⟨rfl, k, hf7, rfl, hk, hB, HSM⟩
  replace hc2 := hc2.out
  subst hc2
  replace hT2 := hT2.out
  subst hT2
  generalize hF : mrgF _ 0 _ _ = F
  simp only [mrg_hit, mrg_miss, mrg_end, Nat.reduceBEq, Nat.reduceAdd] at hF
  rw [hf7] at hF
  subst hF
  by_cases hlt : k < n
  · have hkg : k < gs.length := by rw [HN.out]; exact hlt
    obtain ⟨tx, xb, lo, -⟩ := HF.out W1 hB
    obtain ⟨la, hla, hlb, a0⟩ := lo.ll.outer.sl1 hkg
    obtain ⟨gA, gcc, g, hsg⟩ : ∃ A c xs, gs[k]'hkg = ⟨A, c, xs⟩ := ⟨_, _, _, rfl⟩
    have hgd := HGD.out k hkg
    have hgi := lo.ll.inner _ (List.getElem_mem hkg)
    rw [hsg] at a0 hgd hgi
    dsimp only at a0 hgd hgi
    have KS : Hid (∀ u : Kept W1.heap.size W1, Calls Tryz.prog 15 #[trV a t, .slice gA g.length gcc] u.val fun e w' => e = .returned (.bool (M.small t g)) ∧ Below u.val.heap.size u.val w') := Lib.hid (fun u => rSmall48_ok a t gA gcc g u.val (tx.next u.h) HG.out ((hgi.below u.h).more u.h.size) (by omega))
    obtain ⟨c0, c1, c2, c3, c4, c5⟩ := xb.c6
    have hbb := xb.lt
    have z0 : (0 : Int) ≤ (k : Int) := by omega
    have z1 : (k : Int) < (n : Int) := by omega
    have q0 : decide ((k : Int) < (n : Int)) = true := decide_eq_true z1
    have HGM := Lib.hid hgd.2.2
    have HSG := Lib.hid hsg
    obtain ⟨sm, hsm⟩ : ∃ sm, M.small t g = sm := ⟨_, rfl⟩
    rw [hsm] at KS
    have HSS := Lib.hid hsm
    clear hgd hgi hsg tx xb lo hsm
    subst hla
    go_wp2_with fail
    refine wp_region_kept W1.heap.size W1 (by kernel_rfl) (by kernel_rfl) (Below.refl _ _) ?_
    repeat (go_big_quiet_step ((go_at_call 15; with_reducible exact Kept.calls (Nat.le_refl _) (KS.out _))))
    refine wpQuiet_nil ?_
    rintro w5 ⟨⟨w5x, hb5⟩, hw5⟩
    dsimp only at hw5
    subst hw5
    clear c0 c1 c2 c3 c4 c5 a0 KS
    have B5 := after_ hB hb5
    cases sm with
    | false =>
      have HNO : Hid (¬ ∀ g ∈ M.tgr t, M.small t g = true) := Lib.hid (fun h => by have := h g HGM.out; rw [HSS.out] at this; cases this)
      go_wp2_with fail
      go_ret2
      exact ⟨⟨490, .inr (.inl ⟨HER.out, HNO.out, rfl⟩), .inl ⟨by decide, rfl⟩⟩, after_ B1 B5⟩
    | true =>
      have HS2 : Hid (∀ j (hj : j < gs.length), j < k + 1 → M.small t gs[j].xs = true) := Lib.hid (fun j hj h => by
        by_cases e : j = k
        · subst e; rw [HSG.out]; exact HSS.out
        · exact HSM.out j hj (by omega))
      clear HSM HSS
      go_wp2_with fail
      first
        | exact ⟨_, rfl, rfl, n - (k + 1), by omega, by trivial, k + 1, by go_num, rfl, hlt, B5, HS2⟩
        | exact ⟨rfl, n - (k + 1), by omega, k + 1, by go_num, rfl, hlt, HS2⟩
  · obtain rfl : n = k := by omega
    have q0 : decide ((n : Int) < (n : Int)) = false := decide_eq_false (by omega)
    have HALL : Hid (∀ g ∈ M.tgr t, M.small t g = true) := Lib.hid (fun g hg => by
      rw [show M.tgr t = gs.map (·.xs) from HGX.out.symm] at hg
      obtain ⟨s, hs, rfl⟩ := List.mem_map.1 hg
      obtain ⟨j, hj, rfl⟩ := List.getElem_of_mem hs
      exact HSM.out j hj (by have := HN.out; omega))
    have HRW : Hid (∀ i, i ≤ n → (M.rgN t (M.tgr t) i).length ≤ i ∧ ∀ s ∈ M.rgN t (M.tgr t) i, s.length ≤ 512 * i) := Lib.hid (fun i hi => by
      have h1 := M.GyI.all (t := t) (G := M.tgr t) (W := M.twt t) (fun g hg => M.grps_small (ps := t.ps) HG.out.1.1 hg) i (by rw [HGN.out]; exact hi)
      rw [M.rgN_gy HG.out.1.1 i (show i ≤ (M.tgr t).length by rw [HGN.out]; exact hi)]
      refine ⟨by rw [List.length_map]; exact h1.len, fun s hs => ?_⟩
      obtain ⟨s', hs', rfl⟩ := List.mem_map.1 hs
      rw [M.isort_len]
      exact (h1.row s' hs').1)
    clear HSM
    have gp0 : GP w1 W1 (.slice none 0 0) [] := ⟨hB, LI.none_ _ _⟩
    have HP0 : Hid (([] : List SLc).map (·.xs) = M.rgN t (M.tgr t) 0) := Lib.hid rfl
    go_wp2_with fail
    refine wp_loop_mrg [8, 9, 10, 11, 12, 13, 14, 41, 42, 43, 44, 45, 46, 47, 48, 49, 50, 51, 52, 53, 54, 55, 56, 57, 58, 59, 60, 61, 62, 63, 64, 65, 66, 67, 68, 69, 70, 71, 72, 73, 74, 75, 76, 77, 78, 79, 80, 81, 82, 83, 84, 85, 86, 87, 88, 89, 90, 91, 92, 93, 94, 95, 96, 97, 98, 99, 100, 101] (fun mm f ds W2 => ds = [] ∧ ∃ (i : Nat) (A : Option Addr) (c : Nat) (ls : List SLc), f 9 = .int .i64 i ∧ f 8 = .slice A ls.length c ∧ mm = n - i ∧ i ≤ n ∧ GP w1 W2 (.slice A ls.length c) ls ∧ Hid (ls.map (·.xs) = M.rgN t (M.tgr t) i)) n ⟨rfl, 0, none, 0, [], by rfl, by rfl, rfl, Nat.zero_le _, gp0, HP0⟩ ?_
    clear gp0 HP0 hB
    intro c2' T2' hc2 hT2
    rintro mm f ds W2 ⟨rfl, i, A, c, ls, hf9, hf8, rfl, hi, gp, HP⟩
    replace hc2 := hc2.out
    subst hc2
    replace hT2 := hT2.out
    subst hT2
    generalize hF : mrgF _ 0 _ _ = F
    simp only [mrg_hit, mrg_miss, mrg_end, Nat.reduceBEq, Nat.reduceAdd] at hF
    rw [hf9, hf8] at hF
    subst hF
    by_cases hlti : i < n
    · have hig : i < gs.length := by rw [HN.out]; exact hlti
      obtain ⟨gA, gcc, g, hsg⟩ : ∃ A c xs, gs[i]'hig = ⟨A, c, xs⟩ := ⟨_, _, _, rfl⟩
      have hgd := HGD.out i hig
      rw [hsg] at hgd
      dsimp only at hgd
      obtain ⟨hg1, hg2, hg3⟩ := hgd
      have HSTEP : Hid (M.rgN t (M.tgr t) (i + 1) = M.rgStep t (ls.map (·.xs)) g) := Lib.hid (by rw [HP.out, hg1]; rfl)
      obtain ⟨hr1, hr2⟩ := HRW.out i (by omega)
      rw [← HP.out, List.length_map] at hr1
      have HR2 : Hid (∀ s ∈ ls.map (·.xs), s.length ≤ 512 * i) := Lib.hid (by rw [HP.out]; exact hr2)
      have HFG : Hid (∀ W, Below w1.heap.size w1 W → ∃ la, GA = some la ∧ (la.add i).block < W.heap.size ∧ W.cell? (la.add i) = some (.slice gA g.length gcc) ∧ W.ownsRow 0 3 1 (.slice gA g.length gcc) g.length (flat 1 icell g) ∧ Sl 1 icell W W.heap.size gA g ∧ TrM W a t ∧ Box W w.heap.size (trc a t) 28) := Lib.hid (fun W hW => by
        obtain ⟨tx, xb, lo, -⟩ := HF.out W hW
        obtain ⟨la, hla, hlb, a0⟩ := lo.ll.outer.sl1 hig
        have h3 := lo.inner _ (List.getElem_mem hig)
        have h4 := lo.ll.inner _ (List.getElem_mem hig)
        rw [hsg] at a0 h3 h4
        exact ⟨la, hla, hlb, a0, own_base h3 (Nat.zero_le _), h4, tx, xb⟩)
      have hgl := hg2
      have z0 : (0 : Int) ≤ (i : Int) := by omega
      have z1 : (i : Int) < (n : Int) := by omega
      have q0 : decide ((i : Int) < (n : Int)) = true := decide_eq_true z1
      clear hg1 hg2 hg3 hsg hr2
      go_wp2_with fail
      refine wp_loop_mrg [10, 11, 47, 48, 49, 50, 51, 52, 53, 54, 55, 56, 57, 58, 59, 60, 61, 62, 63] (fun mm f ds W3 => ds = [] ∧ ∃ k : Nat, f 11 = .int .i64 k ∧ f 10 = .int .i64 (M.frmN t g (ls.map (·.xs)) k : Nat) ∧ mm = ls.length - k ∧ k ≤ ls.length ∧ GP w1 W3 (.slice A ls.length c) ls) ls.length ⟨rfl, 0, rfl, rfl, rfl, Nat.zero_le _, gp⟩ ?_
      clear gp
      intro c3' T3' hc2 hT2
      rintro mm f ds W3 ⟨rfl, k, hf11, hf10, rfl, hk, gp⟩
      replace hc2 := hc2.out
      subst hc2
      replace hT2 := hT2.out
      subst hT2
      generalize hF : mrgF _ 0 _ _ = F
      simp only [mrg_hit, mrg_miss, mrg_end, Nat.reduceBEq, Nat.reduceAdd] at hF
      rw [hf11, hf10] at hF
      subst hF
      by_cases hlk : k < ls.length
      · obtain ⟨la, hla, hlb, a0, hgo, hgi, tx, xb⟩ := HFG.out W3 gp.bel
        obtain ⟨c0, c1, c2, c3, c4, c5⟩ := xb.c6
        have hbb := xb.lt
        have hsl := Sl.of_own (by decide) gp.li.outer
        obtain ⟨lp, hlp, hlpb, d0⟩ := hsl.sl1 hlk
        have hpi := Sl.of_own (by decide) (gp.li.inner _ (List.getElem_mem hlk))
        obtain ⟨pA, pc, px, hsp⟩ : ∃ A c xs, ls[k]'hlk = ⟨A, c, xs⟩ := ⟨_, _, _, rfl⟩
        have hpm : px ∈ ls.map (·.xs) := List.mem_map.2 ⟨ls[k], List.getElem_mem hlk, by rw [hsp]⟩
        have hpl := HR2.out px hpm
        have hkm : (ls.map (·.xs)).getD k [] = px := by
          rw [List.getD_eq_getElem?_getD, List.getElem?_map, List.getElem?_eq_getElem hlk, hsp]
          rfl
        rw [hsp] at d0 hpi
        dsimp only at d0 hpi
        have HFR : Hid (M.frmN t g (ls.map (·.xs)) (k + 1) = if M.gwt t g px = true then k else M.frmN t g (ls.map (·.xs)) k) := Lib.hid (by
          conv => lhs; unfold M.frmN
          rw [hkm])
        obtain ⟨r1, hr⟩ : ∃ r1, M.gwt t g px = r1 := ⟨_, rfl⟩
        rw [hr] at HFR
        have KW : Hid (∀ u : Kept W3.heap.size W3, Calls Tryz.prog 50 #[trV a t, .slice gA g.length gcc, .slice pA px.length pc] u.val fun e w' => e = .returned (.bool r1) ∧ Below u.val.heap.size u.val w') := Lib.hid (fun u => by
          have := rWaits48_ok a t gA pA gcc pc g px u.val (tx.next u.h) HG.out HI.out ((hgi.below u.h).more u.h.size) (by omega) ((hpi.below u.h).more u.h.size) (by omega)
          rw [hr] at this
          exact this)
        have y0 : (0 : Int) ≤ (k : Int) := by omega
        have y1 : (k : Int) < (ls.length : Int) := by omega
        have q1 : decide ((k : Int) < (ls.length : Int)) = true := decide_eq_true y1
        obtain ⟨f0, hf0⟩ : ∃ f0, M.frmN t g (ls.map (·.xs)) k = f0 := ⟨_, rfl⟩
        rw [hf0] at HFR ⊢
        obtain ⟨ln, hln⟩ : ∃ ln, ls.length = ln := ⟨_, rfl⟩
        have HLN := Lib.hid hln
        have HPN := Lib.hid hpl
        have HLK := Lib.hid hlk
        have HRR := Lib.hid hr1
        have zk : (k : Int) + 1 ≤ 1000000 := by omega
        clear hsl hgo hgi hpi hsp hpm hkm hr hf0 tx xb hpl hln hr1
        subst hla
        subst hlp
        go_wp2_with fail
        refine wp_region_kept W3.heap.size W3 (by kernel_rfl) (by kernel_rfl) (Below.refl _ _) ?_
        repeat (go_big_quiet_step ((go_at_call 50; with_reducible exact Kept.calls (Nat.le_refl _) (KW.out _))))
        refine wpQuiet_nil ?_
        rintro w5 ⟨⟨w5x, hb5⟩, hw5⟩
        dsimp only at hw5
        subst hw5
        clear c0 c1 c2 c3 c4 c5 a0 d0 KW
        have gp5 := gp.next hb5
        cases r1 with
        | true =>
          have HF2 := Lib.hid (HFR.out.trans (if_pos rfl))
          clear HFR
          go_wp2_with fail
          exact ⟨_, rfl, rfl, ls.length - (k + 1), Nat.sub_lt_sub_left HLK.out (Nat.lt_succ_self k), by trivial, k + 1, by go_num, (congrArg (fun q : Nat => Value.int .i64 (q : Int)) HF2.out).symm, rfl, hlk, gp5⟩
        | false =>
          have HF2 := Lib.hid (HFR.out.trans (if_neg (by decide)))
          clear HFR
          go_wp2_with fail
          exact ⟨_, rfl, rfl, ls.length - (k + 1), Nat.sub_lt_sub_left HLK.out (Nat.lt_succ_self k), by trivial, k + 1, by go_num, (congrArg (fun q : Nat => Value.int .i64 (q : Int)) HF2.out).symm, rfl, hlk, gp5⟩
      · obtain rfl : k = ls.length := by omega
        have q1 : decide ((ls.length : Int) < (ls.length : Int)) = false := decide_eq_false (by omega)
        obtain ⟨k0, hk0⟩ : ∃ k0, M.frmN t g (ls.map (·.xs)) ls.length = k0 := ⟨_, rfl⟩
        have hk0b : k0 ≤ 1000000 := by
          rw [← hk0]
          have := (M.frmN_bd (t := t) (g := g) (plan := ls.map (·.xs)) (B := ls.length) ls.length).2 (fun j hj _ => by omega)
          omega
        have HY : Hid (∀ j, M.fit t (ls.map (·.xs)) g k0 = some j → M.rgN t (M.tgr t) (i + 1) = (ls.map (·.xs)).set j (M.isort ((ls.map (·.xs)).getD j [] ++ g))) := Lib.hid (fun j hj => by
          rw [HSTEP.out]
          unfold M.rgStep
          rw [List.length_map, hk0, hj])
        have HZ : Hid (M.fit t (ls.map (·.xs)) g k0 = none → M.rgN t (M.tgr t) (i + 1) = ls.map (·.xs) ++ [g]) := Lib.hid (fun hj => by
          rw [HSTEP.out]
          unfold M.rgStep
          rw [List.length_map, hk0, hj])
        rw [hk0]
        clear hk0 HSTEP
        go_wp2_with fail
        clear q0 q1
        refine wp_loop_mrg [12, 13, 14, 65, 66, 67, 68, 69, 70, 71, 72, 73, 74, 75, 76, 77, 78, 79, 80, 81, 82, 83, 84, 85, 86, 87, 88, 89, 90, 91, 92] (fun mm f ds W4 => ds = [] ∧ ∃ (k : Nat) (pl : Bool) (ls2 : List SLc), f 13 = .int .i64 k ∧ f 12 = .bool pl ∧ mm = 1000001 - k ∧ k ≤ 1000000 ∧ ls2.length = ls.length ∧ GP w1 W4 (.slice A ls2.length c) ls2 ∧ Hid ((pl = false ∧ ls2 = ls ∧ M.fit t (ls.map (·.xs)) g k0 = M.fit t (ls.map (·.xs)) g k) ∨ (pl = true ∧ ls2.map (·.xs) = M.rgN t (M.tgr t) (i + 1)))) (1000001 - k0) ⟨rfl, k0, false, ls, rfl, rfl, rfl, hk0b, rfl, gp, Lib.hid (.inl ⟨rfl, rfl, rfl⟩)⟩ ?_
        clear gp
        intro c4' T4' hc2 hT2
        rintro mm f ds W4 ⟨rfl, k, pl, ls2, hf13, hf12, rfl, hkb, hl2, gp2, HC⟩
        replace hc2 := hc2.out
        subst hc2
        replace hT2 := hT2.out
        subst hT2
        generalize hF : mrgF _ 0 _ _ = F
        simp only [mrg_hit, mrg_miss, mrg_end, Nat.reduceBEq, Nat.reduceAdd] at hF
        rw [hf13, hf12] at hF
        subst hF
        have z2 : (0 : Int) ≤ (k : Int) := by omega
        by_cases hlk : k < ls.length
        · have q1 : decide ((k : Int) < (ls.length : Int)) = true := decide_eq_true (by omega)
          have y1 : (k : Int) < (ls.length : Int) := by omega
          cases pl with
          | true =>
            have HNX : Hid (ls2.map (·.xs) = M.rgN t (M.tgr t) (i + 1)) := Lib.hid (by rcases HC.out with ⟨h, -⟩ | ⟨-, h⟩; · cases h
                                                                                       · exact h)
            have HL2 := Lib.hid hl2
            have HGP := Lib.hid gp2
            clear HC hl2 gp2
            go_wp2_with fail
            first
              | exact ⟨_, rfl, rfl, n - (i + 1), by omega, by trivial, i + 1, A, c, ls2, by go_num, by rw [HL2.out]; rfl, rfl, hlti, HGP.out, HNX⟩
              | exact ⟨rfl, n - (i + 1), by omega, i + 1, A, c, ls2, by go_num, by rw [HL2.out]; rfl, rfl, hlti, HGP.out, HNX⟩
          | false =>
            obtain ⟨hls, hft⟩ : ls2 = ls ∧ M.fit t (ls.map (·.xs)) g k0 = M.fit t (ls.map (·.xs)) g k := by
              rcases HC.out with ⟨-, h⟩ | ⟨h, -⟩
              · exact h
              · cases h
            clear HC hl2
            subst hls
            obtain ⟨la, hla, hlb, a0, hgo, hgi, tx, xb⟩ := HFG.out W4 gp2.bel
            obtain ⟨c0, c1, c2, c3, c4, c5⟩ := xb.c6
            have hbb := xb.lt
            obtain ⟨pA, pc, px, hsp⟩ : ∃ A c xs, ls2[k]'hlk = ⟨A, c, xs⟩ := ⟨_, _, _, rfl⟩
            have hpm : px ∈ ls2.map (·.xs) := List.mem_map.2 ⟨ls2[k], List.getElem_mem hlk, by rw [hsp]⟩
            have hpl := HR2.out px hpm
            have hkm : (ls2.map (·.xs)).getD k [] = px := by
              rw [List.getD_eq_getElem?_getD, List.getElem?_map, List.getElem?_eq_getElem hlk, hsp]
              rfl
            obtain ⟨g0, cap, hv, hg0⟩ := gp2.li.one_at (by omega)
            injection hv with hv1 hv2 hv3
            subst hv1
            subst hv3
            have d0 := (own_at gp2.li.outer hlk (j := 0) (by decide))
            rw [Nat.mul_one, Nat.add_zero, hsp] at d0
            obtain ⟨d0a, d0b⟩ := d0
            have ea : (⟨g0, 0, none⟩ : Addr).add k = ⟨g0, k, none⟩ := by unfold Addr.add; split <;> simp_all
            have d0c : W4.cell? ((⟨g0, 0, none⟩ : Addr).add k) = some (.slice pA px.length pc) := by rw [ea]; exact d0a
            have hpi := Sl.of_own (by decide) (gp2.li.inner _ (List.getElem_mem hlk))
            rw [hsp] at hpi
            dsimp only at hpi
            have hglt : ((⟨g0, 0, none⟩ : Addr).add k).block < W4.heap.size := by rw [ea]; exact (own_lt2 gp2.li.outer).2
            have hylb : px.length ≤ 1000000 := by omega
            have hgib : (i : Nat) < n := hlti
            have hgl6 : g.length ≤ 1000000 := by omega
            have hbl : (px ++ g).length ≤ 1000000 := by rw [List.length_append]; omega
            have HYES : Hid (M.small t (px ++ g) = true → M.rgN t (M.tgr t) (i + 1) = (ls2.map (·.xs)).set k (M.isort (px ++ g))) := Lib.hid (fun e => by
              have h9 := HY.out k (by rw [hft]; exact M.fit_yes (by rw [List.length_map]; exact hlk) (by rw [hkm]; exact e))
              rw [hkm] at h9
              exact h9)
            have HNO : Hid (M.small t (px ++ g) = false → M.fit t (ls2.map (·.xs)) g k0 = M.fit t (ls2.map (·.xs)) g (k + 1)) := Lib.hid (fun e => by
              rw [hft]
              exact M.fit_no (by rw [List.length_map]; exact hlk) (by rw [hkm]; exact e))
            have HLK := Lib.hid hlk
            have hkb2 : (k : Int) + 1 ≤ 1000 := by omega
            have HK1 : Hid (k + 1 ≤ 1000000) := Lib.hid (by omega)
            have HBL := Lib.hid hbl
            subst hla
            go_wp2_with fail
            refine grd_reg24 (X := W4) hlk hgib hglt hlb d0c a0 hpi hgi hylb hgl6 (by kernel_rfl) ?_
            intro z75 z76 z77 z78 z79 z80 z81 z82 z83 z84 w5 v5 hv5 hb5
            clear c0 c1 c2 c3 c4 c5 a0 d0a d0b d0c hpi hgi hgo tx xb hglt hlb hbb ea hsp hpm hkm hft hpl
            obtain ⟨A5, cc5, hve, hS5⟩ := own_slice (by decide) hv5
            subst hve
            have gp5 := gp2.next hb5
            obtain ⟨la5, hla5, -, -, -, -, tx, xb⟩ := HFG.out w5 gp5.bel
            obtain ⟨c0, c1, c2, c3, c4, c5⟩ := xb.c6
            clear hla5
            have kS := rSmall48_ok a t A5 cc5 (px ++ g) w5 tx HG.out hS5 hbl
            have hS5' := Lib.hid hS5
            obtain ⟨sl, hsl⟩ : ∃ n, (px ++ g).length = n := ⟨_, rfl⟩
            rw [hsl] at kS ⊢
            have HSL := Lib.hid hsl
            generalize hsm : M.small t (px ++ g) = sm at *
            clear hsl hbl hS5 hsm hv5 gp2 hb5 tx xb
            go_wp2_with fail
            refine kS.mono ?_
            rintro e w6 ⟨rfl, hb6⟩
            clear kS c0 c1 c2 c3 c4 c5
            have gp6 := gp5.next hb6
            have HS6 : Hid (Sl 1 icell w6 w6.heap.size A5 (px ++ g)) := Lib.hid ((hS5'.out.below hb6).more hb6.size)
            clear gp5 hS5'
            cases sm with
            | false =>
              have HN2 := Lib.hid (HNO.out rfl)
              clear HNO HYES
              go_wp2_with fail
              first
                | exact ⟨_, rfl, rfl, 1000001 - (k + 1), by omega, by trivial, k + 1, false, ls2, by go_num, rfl, rfl, HK1.out, rfl, gp6, Lib.hid (.inl ⟨rfl, rfl, HN2.out⟩)⟩
                | exact ⟨rfl, 1000001 - (k + 1), by omega, k + 1, false, ls2, by go_num, rfl, rfl, HK1.out, rfl, gp6, Lib.hid (.inl ⟨rfl, rfl, HN2.out⟩)⟩
            | true =>
              have HYS := Lib.hid (HYES.out rfl)
              clear HNO HYES
              have kT := rSorted_ok A5 cc5 (px ++ g) w6 HS6.out HBL.out
              rw [HSL.out] at kT
              go_wp2_with fail
              refine kT.mono ?_
              rintro e w7 ⟨v7, rfl, hv7, hb7⟩
              clear kT
              have gp7 := gp6.next hb7
              obtain ⟨A7, c7, hve, -⟩ := own_slice (by decide) hv7
              subst hve
              have d6 := (own_at gp7.li.outer HLK.out (j := 0) (by decide))
              rw [Nat.mul_one, Nat.add_zero] at d6
              obtain ⟨d6a, d6b⟩ := d6
              have hil : (M.isort (px ++ g)).length = sl := by rw [M.isort_len, HSL.out]
              have hin : w7.ownsRow 0 3 1 (.slice (⟨A7, c7, M.isort (px ++ g)⟩ : SLc).A (⟨A7, c7, M.isort (px ++ g)⟩ : SLc).xs.length (⟨A7, c7, M.isort (px ++ g)⟩ : SLc).c) (⟨A7, c7, M.isort (px ++ g)⟩ : SLc).xs.length (flat 1 icell (⟨A7, c7, M.isort (px ++ g)⟩ : SLc).xs) := by
                dsimp only
                rw [hil] at hv7 ⊢
                exact own_base hv7 (Nat.zero_le _)
              have li8 := gp7.li.put HLK.out hin
              have b8 := gp7.bel.setCell (p := ⟨g0, k, none⟩) (own_lt2 gp7.li.outer).1 (.slice A7 (M.isort (px ++ g)).length c7)
              have gp8 : GP w1 _ _ _ := ⟨b8, li8⟩
              rw [hil] at gp8
              have HGP8 := Lib.hid gp8
              have HNX : Hid ((ls2.set k ⟨A7, c7, M.isort (px ++ g)⟩).map (·.xs) = M.rgN t (M.tgr t) (i + 1)) := Lib.hid (by rw [HYS.out, List.map_set])
              have hxl : w7.cell? ⟨g0, k, none⟩ = some (slcell ls2[k] 0) := d6a
              clear gp6 gp7 li8 b8 gp8 hin hv7 d6a
              go_wp2_with fail
              exact ⟨_, rfl, rfl, 1000001 - (k + 1), by omega, by trivial, k + 1, true, ls2.set k ⟨A7, c7, M.isort (px ++ g)⟩, by go_num, rfl, rfl, HK1.out, by rw [List.length_set], by rw [List.length_set]; exact HGP8.out, Lib.hid (.inr ⟨rfl, HNX.out⟩)⟩
        · have q1 : decide ((k : Int) < (ls.length : Int)) = false := decide_eq_false (by omega)
          cases pl with
          | true =>
            have HNX : Hid (ls2.map (·.xs) = M.rgN t (M.tgr t) (i + 1)) := Lib.hid (by rcases HC.out with ⟨h, -⟩ | ⟨-, h⟩; · cases h
                                                                                       · exact h)
            have HL2 := Lib.hid hl2
            have HGP := Lib.hid gp2
            clear HC hl2 gp2
            go_wp2_with fail
            first
              | exact ⟨_, rfl, rfl, n - (i + 1), by omega, by trivial, i + 1, A, c, ls2, by go_num, by rw [HL2.out]; rfl, rfl, hlti, HGP.out, HNX⟩
              | exact ⟨rfl, n - (i + 1), by omega, i + 1, A, c, ls2, by go_num, by rw [HL2.out]; rfl, rfl, hlti, HGP.out, HNX⟩
          | false =>
            obtain ⟨hls, hft⟩ : ls2 = ls ∧ M.fit t (ls.map (·.xs)) g k0 = M.fit t (ls.map (·.xs)) g k := by
              rcases HC.out with ⟨-, h⟩ | ⟨h, -⟩
              · exact h
              · cases h
            clear HC hl2
            subst hls
            have HFN : Hid (M.fit t (ls2.map (·.xs)) g k0 = none) := Lib.hid (by rw [hft]; exact M.fit_end (by rw [List.length_map]; exact hlk))
            have HZS := Lib.hid (HZ.out HFN.out)
            obtain ⟨la, hla, hlb, a0, hgo, hgi, tx, xb⟩ := HFG.out W4 gp2.bel
            obtain ⟨c0, c1, c2, c3, c4, c5⟩ := xb.c6
            have hbb := xb.lt
            have hlsb : ls2.length ≤ 512 := by omega
            have hbel := gp2.bel
            have HGP2 := Lib.hid gp2
            subst hla
            clear hft hgi tx xb
            go_wp2_with (at_builtin; refine wpList_push (w0 := w1) (cell := slcell) (y := (⟨gA, gcc, g⟩ : SLc)) rfl _ _ _ rfl w1.heap.size w1.heap.size 29 il _ 24 Tryz.underlying39 Hil.out Hzl0.out Hzl1.out Hzl2.out rfl (by decide) _ _ _ rfl gp2.li.outer _ _ rfl 1 rfl (sl_one _) (by unfold maxLen; omega) (by omega) hbel.size (Nat.le_refl _) hbel ?_; intro v' w8 hown8 hb8 hg8; obtain ⟨g8, cap8, rfl⟩ := ownsRow_succ hown8; have li8 := HGP2.out.li.push (s := ⟨gA, gcc, g⟩) hgo hown8 hg8)
            first
              | exact ⟨_, rfl, rfl, n - (i + 1), by omega, by trivial, i + 1, some ⟨g8, 0, none⟩, cap8, ls2 ++ [⟨gA, gcc, g⟩], by go_num, by rw [List.length_append]; rfl, rfl, hlti, by rw [List.length_append]; exact ⟨hb8, li8⟩, Lib.hid (by rw [HZS.out, List.map_append]; rfl)⟩
              | exact ⟨rfl, n - (i + 1), by omega, i + 1, some ⟨g8, 0, none⟩, cap8, ls2 ++ [⟨gA, gcc, g⟩], by go_num, by rw [List.length_append]; rfl, rfl, hlti, by rw [List.length_append]; exact ⟨hb8, li8⟩, Lib.hid (by rw [HZS.out, List.map_append]; rfl)⟩
    · obtain rfl : i = n := by omega
      have q0 : decide ((i : Int) < (i : Int)) = false := decide_eq_false (by omega)
      have HPX : Hid (ls.map (·.xs) = M.gyP t) := Lib.hid (by rw [HP.out, ← M.rg_gyP HG.out.1.1, HGN.out])
      have hll : LL W2 A ls := ⟨Sl.of_own (by decide) gp.li.outer, fun s hs => Sl.of_own (by decide) (gp.li.inner s hs)⟩
      have HLLX := Lib.hid hll
      obtain ⟨-, -, -, hbw⟩ := HF.out W2 gp.bel
      have HBW := Lib.hid hbw
      clear hll gp HP hbw
      go_wp2_with fail
      go_ret2
      exact ⟨⟨0, .inr (.inr ⟨HER.out, HALL.out, rfl⟩), .inr ⟨rfl, A, c, ls, rfl, HLLX.out, HPX.out⟩⟩, HBW.out⟩
end Go.Proofs.YtpkepgcmifdpfaaGreatDoor
end
