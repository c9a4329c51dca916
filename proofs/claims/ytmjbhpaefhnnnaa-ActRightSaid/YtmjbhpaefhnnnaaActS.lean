/- Acts: what an adversary does, and that two are one. Conditions: none. -/
import Derived.Test.YtmjbhpaefhnnnaaActU
import Derived.Test.YtmjbhpaefhnnnaaSmT
