/- Addresses in order; compare. -/
import Derived.Test.YtniejpfjbifjkaaDoorLq
import Derived.Lib.Bytealg
namespace Go.Proofs.YtniejpfjbifjkaaDoor
open Go.RowKit Fl

/-- the sign of the first difference. -/
def lexC (b c : Nat → Int) : Int := match (List.range 16).find? fun i => b i != c i with
  | some i => if b i < c i then -1 else 1
  | none => 0
def bArr (b : Nat → Int) (n : Nat) : ByteArray := ⟨((List.range n).map fun i => (b i).toNat.toUInt8).toArray⟩
theorem run_loadBytes (P : Program) (w : World) (g : Nat) (b : Nat → Int) : ∀ (n o k : Nat) (acc : ByteArray), acc = bArr b k → (∀ i, i < n → w.cell? ⟨g, o + i, none⟩ = some (.int .u8 (b (k + i)))) →
    (Extern.Bytes.loadBytes ⟨g, o, none⟩ n acc).run P w = .ok (bArr b (k + n)) w := by
  intro n
  induction n with
  | zero => intro o k acc ha _; rw [ha]; rfl
  | succ n ih =>
    intro o k acc ha hc
    have h0 := hc 0 (by omega)
    rw [Nat.add_zero, Nat.add_zero] at h0
    unfold Extern.Bytes.loadBytes
    have hadd : (⟨g, o, none⟩ : Addr).add 1 = ⟨g, o + 1, none⟩ := by unfold Addr.add; split <;> simp_all
    have := ih (o + 1) (k + 1) (acc.push (b k).toNat.toUInt8) (by rw [ha]; unfold bArr; simp [List.range_succ, ByteArray.push]) (fun i hi => by
      have := hc (i + 1) (by omega)
      rw [show o + 1 + i = o + (i + 1) by omega, show k + 1 + i = k + (i + 1) by omega]; exact this)
    rw [hadd]
    simp [h0, this]
    rw [show k + 1 + n = k + (n + 1) by omega]
theorem bArr_size (b : Nat → Int) (n : Nat) : (bArr b n).size = n := by
  show ((List.range n).map _).toArray.size = n
  simp
theorem bArr_get (b : Nat → Int) (n i : Nat) (hi : i < n) : (bArr b n)[i]! = (b i).toNat.toUInt8 := by
  rw [getElem!_pos (bArr b n) i (by rw [bArr_size]; exact hi)]
  show ((List.range n).map fun i => (b i).toNat.toUInt8).toArray[i]'_ = _
  simp
theorem u8_lt {x y : Int} (hx : 0 ≤ x ∧ x < 256) (hy : 0 ≤ y ∧ y < 256) : (x.toNat.toUInt8 < y.toNat.toUInt8) ↔ x < y := by
  rw [UInt8.lt_iff_toNat_lt]
  simp
  rw [Nat.mod_eq_of_lt (by omega), Nat.mod_eq_of_lt (by omega)]
  omega
theorem u8_eq {x y : Int} (hx : 0 ≤ x ∧ x < 256) (hy : 0 ≤ y ∧ y < 256) : (x.toNat.toUInt8 = y.toNat.toUInt8) ↔ x = y := by
  constructor
  · intro h
    have := congrArg UInt8.toNat h
    simp at this
    rw [Nat.mod_eq_of_lt (by omega), Nat.mod_eq_of_lt (by omega)] at this
    omega
  · rintro rfl; rfl
theorem find_congr {α : Type} {p q : α → Bool} : ∀ {l : List α}, (∀ x ∈ l, p x = q x) → l.find? p = l.find? q
  | [], _ => rfl
  | x :: l, h => by
    rw [List.find?_cons, List.find?_cons, h x (List.mem_cons_self ..), find_congr (l := l) (fun y hy => h y (List.mem_cons_of_mem _ hy))]
theorem cmp_lex {b c : Nat → Int} (hb : ∀ i, 0 ≤ b i ∧ b i < 256) (hc : ∀ i, 0 ≤ c i ∧ c i < 256) : Extern.BytealgCompare.cmp (bArr b 16) (bArr c 16) = lexC b c := by
  unfold Extern.BytealgCompare.cmp lexC
  rw [bArr_size, bArr_size, Nat.min_self]
  have hf : (List.range 16).find? (fun i => (bArr b 16)[i]! != (bArr c 16)[i]!) = (List.range 16).find? fun i => b i != c i := by
    apply find_congr
    intro i hi
    have hi' : i < 16 := by simpa using hi
    rw [bArr_get b 16 i hi', bArr_get c 16 i hi']
    rw [Bool.eq_iff_iff, bne_iff_ne, bne_iff_ne, ne_eq, ne_eq, u8_eq (hb i) (hc i)]
  rw [hf]
  cases h : (List.range 16).find? fun i => b i != c i with
  | none => simp
  | some i =>
    have hi : i < 16 := by simpa using List.mem_of_find?_eq_some h
    simp only
    rw [bArr_get b 16 i hi, bArr_get c 16 i hi]
    by_cases hlt : b i < c i
    · rw [if_pos hlt, if_pos ((u8_lt (hb i) (hc i)).2 hlt)]
    · rw [if_neg hlt, if_neg (fun hh => hlt ((u8_lt (hb i) (hc i)).1 hh))]
theorem run_cmp (w : World) (g o g' o' c1 c2 : Nat) (b c : Nat → Int) (hb : ∀ i, 0 ≤ b i ∧ b i < 256) (hc : ∀ i, 0 ≤ c i ∧ c i < 256)
    (h1 : ∀ i, i < 16 → w.cell? ⟨g, o + i, none⟩ = some (.int .u8 (b i))) (h2 : ∀ i, i < 16 → w.cell? ⟨g', o' + i, none⟩ = some (.int .u8 (c i))) :
    (Extern.BytealgCompare.compare #[.slice (some ⟨g, o, none⟩) 16 c1, .slice (some ⟨g', o', none⟩) 16 c2]).run Tryd.prog w = .ok (.int .i64 (lexC b c)) w := by
  have e1 := run_loadBytes Tryd.prog w g b 16 o 0 .empty rfl (fun i hi => by rw [Nat.zero_add]; exact h1 i hi)
  have e2 := run_loadBytes Tryd.prog w g' c 16 o' 0 .empty rfl (fun i hi => by rw [Nat.zero_add]; exact h2 i hi)
  rw [← cmp_lex hb hc]
  change Sem.run Tryd.prog (do pure (goInt (Extern.BytealgCompare.cmp (← Extern.Bytes.loadBytes ⟨g, o, none⟩ 16 .empty) (← Extern.Bytes.loadBytes ⟨g', o', none⟩ 16 .empty)))) w = _
  simp only [Sem.run_bind, Sem.run_pure, e1, e2, Result.andThen]
  rfl
set_option maxRecDepth 100000 in
theorem bcmpC (w : World) (g o g' o' c1 c2 : Nat) (b c : Nat → Int) (hb : ∀ i, 0 ≤ b i ∧ b i < 256) (hc : ∀ i, 0 ≤ c i ∧ c i < 256)
    (h1 : ∀ i, i < 16 → w.cell? ⟨g, o + i, none⟩ = some (.int .u8 (b i))) (h2 : ∀ i, i < 16 → w.cell? ⟨g', o' + i, none⟩ = some (.int .u8 (c i))) :
    Calls Tryd.prog 135 #[.slice (some ⟨g, o, none⟩) 16 c1, .slice (some ⟨g', o', none⟩) 16 c2] w fun e w' => e = .returned (.int .i64 (lexC b c)) ∧ w = w' := by
  have HR := Lib.hid (run_cmp w g o g' o' c1 c2 b c hb hc h1 h2)
  clear h1 h2 hb hc
  go_enter Tryd.func135, Tryd.ntmps135
  go_wp2
  rw [run_callFunc_extern Tryd.func136 (by kernel_rfl) (by kernel_rfl) (by kernel_rfl) (e := Extern.BytealgCompare.compare) (by kernel_rfl), HR.out]
  simp only [Result.andThen]
  rw [Oper.upon_value]
  go_wp2
  go_ret
  exact ⟨rfl, rfl⟩
end Go.Proofs.YtniejpfjbifjkaaDoor
